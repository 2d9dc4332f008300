/- Part of the texts of a proof: own texts joined in the order of their building; what they say stands at each theorem. -/
import Derived.Test.YtmihponoillihaaGreatDoorBas01
import Derived.Lib.Strings
import Derived.Lib.Bytealg
import Derived.Test.YtmihponoillihaaGreatDoorRows
import Derived.StillTailTactics
import Derived.BigQuiet
import Derived.WalkLawsBesides
import Derived.Deep.RegionHeld3
set_option linter.unusedSimpArgs false
set_option linter.unusedVariables false
namespace Go.Proofs.YtmihponoillihaaGreatDoor
open Go.RowKit

def lowDig (c : UInt8) : Bool := decide ((97 ≤ c.toNat ∧ c.toNat ≤ 122) ∨ (48 ≤ c.toNat ∧ c.toNat ≤ 57))
def upper (c : UInt8) : Bool := decide (65 ≤ c.toNat ∧ c.toNat ≤ 90)
def plainB (l : List UInt8) : Bool := l.all lowDig
def inB (n lo hi : Int) : Bool := decide (lo ≤ n ∧ n ≤ hi)
theorem inB_yes {n lo hi : Int} (h1 : lo ≤ n) (h2 : n ≤ hi) : inB n lo hi = true := decide_eq_true ⟨h1, h2⟩
theorem inB_low {n lo hi : Int} (h1 : n < lo) : inB n lo hi = false := decide_eq_false (by omega)
theorem inB_high {n lo hi : Int} (h1 : hi < n) : inB n lo hi = false := decide_eq_false (by omega)
def lettersB (s : ByteArray) : Bool := plainB s.data.toList && inB s.size 1 8
def isNot (s : ByteArray) : Bool := s.toList == [110, 111, 116]
def nameOkB (s : ByteArray) : Bool := lettersB s && !(isNot s)
def capB (s : ByteArray) : Bool := match s.data.toList with | [] => false | c :: _ => upper c
def varOkB (s : ByteArray) : Bool := capB s && decide (s.size ≤ 8) && plainB (s.data.toList.drop 1)
def termOkB (t : GT) : Bool := if t.v then varOkB t.n else nameOkB t.n
def atomOkB (a : GA) : Bool := nameOkB a.n && decide (a.args.length ≤ 3) && a.args.all termOkB
def factB (a : GA) : Bool := atomOkB a && a.args.all fun t => !t.v

theorem lowDig_yes {c : UInt8} (h : lowDig c = true) : (97 ≤ c.toNat ∧ c.toNat ≤ 122) ∨ (48 ≤ c.toNat ∧ c.toNat ≤ 57) := of_decide_eq_true h
theorem lowDig_no {c : UInt8} (h : lowDig c = false) : c.toNat < 48 ∨ (57 < c.toNat ∧ c.toNat < 97) ∨ 122 < c.toNat := by
 have := of_decide_eq_false h; omega

theorem plainB_snoc (l : List UInt8) (c : UInt8) : plainB (l ++ [c]) = (plainB l && lowDig c) := by simp [plainB]

theorem take_snoc' (s : ByteArray) (k : Nat) (h : k < s.size) : s.data.toList.take (k + 1) = s.data.toList.take k ++ [s[k]] := by
 rw [List.take_succ_eq_append_getElem (by simpa using h)]; rfl

theorem take_all (s : ByteArray) : s.data.toList.take s.size = s.data.toList := List.take_of_length_le (by simp)

/-- A prefix that is not plain spoils the whole. -/
theorem plainB_false {l : List UInt8} {k : Nat} (h : plainB (l.take k) = false) : plainB l = false := by
 rw [← List.take_append_drop k l]
 unfold plainB at h ⊢
 rw [List.all_append, h]; rfl

theorem tail_list (s : ByteArray) (k : Nat) : (s.extract k s.size).data.toList = s.data.toList.drop k := by
 simp only [ByteArray.data_extract, Array.toList_extract]
 rw [List.extract_eq_take_drop]
 exact List.take_of_length_le (by simp)

theorem tail_size (s : ByteArray) (k : Nat) (_h : k ≤ s.size) : (s.extract k s.size).size = s.size - k := by
 simp [ByteArray.size_extract]

theorem capB_cons {s : ByteArray} (h : 0 < s.size) : capB s = upper s[0] := by
 unfold capB
 have h1 : s.data.toList = s[0] :: s.data.toList.drop 1 := by
  have h2 : 0 < s.data.toList.length := by simpa using h
  have h3 := List.drop_eq_getElem_cons h2
  rw [List.drop_zero] at h3
  exact h3
 rw [h1]

theorem varOk_long {s : ByteArray} (hp : 0 < s.size) (hu : upper s[0] = true) (h1 : ¬ s.size = 1) : varOkB s = (lettersB (s.extract 1 s.size) && decide (s.size ≤ 8)) := by
 unfold varOkB lettersB
 rw [capB_cons hp, hu, tail_list, tail_size s 1 (by omega)]
 by_cases h8 : s.size ≤ 8
 · rw [inB_yes (by omega) (by omega)]; simp [h8]
 · simp [h8]

theorem all_snoc {α : Type} (p : α → Bool) (l : List α) (k : Nat) (x : α) (h : l[k]? = some x) : (l.take (k + 1)).all p = ((l.take k).all p && p x) := by
 obtain ⟨hk, rfl⟩ := List.getElem?_eq_some_iff.1 h
 rw [List.take_succ_eq_append_getElem hk, List.all_append]; simp
theorem all_false {α : Type} (p : α → Bool) (l : List α) (k : Nat) (x : α) (h : l[k]? = some x) (hp : p x = false) : l.all p = false := by
 rw [List.all_eq_false]; exact ⟨x, List.mem_of_getElem? h, by simp [hp]⟩
theorem all_whole {α : Type} (p : α → Bool) (l : List α) (k : Nat) (hk : ¬ k < l.length) (h : (l.take k).all p = true) : l.all p = true := by
 rwa [List.take_of_length_le (by omega)] at h
theorem compare_eq : ∀ (x y : List UInt8), Lib.compareBytes x y = if Op.bytesLess x y = true then -1 else if (x == y) = true then 0 else 1
 | [], [] => rfl
 | [], _ :: _ => rfl
 | _ :: _, [] => rfl
 | a :: x, b :: y => by
   have ih := compare_eq x y
   unfold Lib.compareBytes Op.bytesLess
   by_cases h1 : a < b
   · simp [h1]
   · by_cases h2 : b < a
     · have hne : ¬ a = b := fun e => h1 (e ▸ h2)
       simp [h1, h2, hne]
     · have hab : a = b := by
         have h3 := UInt8.not_lt.1 h1; have h4 := UInt8.not_lt.1 h2
         exact UInt8.le_antisymm h4 h3
       subst hab
       simp [h1, ih]

/-- How two texts stand to each other. -/
def cmpS (a b : ByteArray) : Int := Lib.compareBytes a.data.toList b.data.toList
theorem cmpS_less {a b : ByteArray} (h : Op.bytesLess a.toList b.toList = true) : cmpS a b = -1 := by
 unfold cmpS; rw [compare_eq, ← ByteArray.toList_eq, ← ByteArray.toList_eq, if_pos h]
theorem cmpS_same {a b : ByteArray} (h1 : Op.bytesLess a.toList b.toList = false) (h : (!a.toList == b.toList) = false) : cmpS a b = 0 := by
 unfold cmpS; rw [compare_eq, ← ByteArray.toList_eq, ← ByteArray.toList_eq, if_neg (by simp [h1]), if_pos (by simpa using h)]
theorem cmpS_more {a b : ByteArray} (h1 : Op.bytesLess a.toList b.toList = false) (h : (!a.toList == b.toList) = true) : cmpS a b = 1 := by
 unfold cmpS; rw [compare_eq, ← ByteArray.toList_eq, ← ByteArray.toList_eq, if_neg (by simp [h1]), if_neg (by simpa using h)]

def cmpArgs : List GT → List GT → Int
 | [], [] => 0
 | [], _ :: _ => -1
 | _ :: _, [] => 1
 | s :: x, t :: y => if cmpS s.n t.n = 0 then cmpArgs x y else cmpS s.n t.n
def cmpA (a b : GA) : Int := if cmpS a.n b.n = 0 then cmpArgs a.args b.args else cmpS a.n b.n

theorem cmpS_range (a b : ByteArray) : cmpS a b = -1 ∨ cmpS a b = 0 ∨ cmpS a b = 1 := by
 unfold cmpS; rw [compare_eq]; split
 · exact .inl rfl
 · split
   · exact .inr (.inl rfl)
   · exact .inr (.inr rfl)
theorem drop_cons {α : Type} {l : List α} {k : Nat} {x : α} (h : l[k]? = some x) : l.drop k = x :: l.drop (k + 1) := by
 obtain ⟨hk, rfl⟩ := List.getElem?_eq_some_iff.1 h
 exact List.drop_eq_getElem_cons hk

/-- What is still to be compared behind k terms, where q was found. -/
def cmpFrom (x y : List GT) (k : Nat) (q : Int) : Int := if q = 0 then cmpArgs (x.drop k) (y.drop k) else q
theorem cmpFrom_step {x y : List GT} {k : Nat} {s t : GT} (hs : x[k]? = some s) (ht : y[k]? = some t) : cmpFrom x y k 0 = cmpFrom x y (k + 1) (cmpS s.n t.n) := by
 unfold cmpFrom; rw [if_pos rfl, drop_cons hs, drop_cons ht]; rfl
theorem cmpFrom_done {x y : List GT} {k : Nat} {q : Int} (h : ¬ q = 0) : cmpFrom x y k q = q := if_neg h
theorem cmpFrom_end {x y : List GT} {k : Nat} (h : x.length ≤ k ∨ y.length ≤ k) (hk : k ≤ x.length ∧ k ≤ y.length) :
 cmpFrom x y k 0 = if x.length < y.length then -1 else if y.length < x.length then 1 else 0 := by
 unfold cmpFrom; rw [if_pos rfl]
 rcases Nat.lt_or_ge k x.length with h1 | h1
 · have h2 : y.length ≤ k := by omega
   rw [drop_cons (List.getElem?_eq_getElem h1), List.drop_eq_nil_of_le h2, if_neg (by omega), if_pos (by omega)]; rfl
 · rcases Nat.lt_or_ge k y.length with h2 | h2
   · rw [drop_cons (List.getElem?_eq_getElem h2), List.drop_eq_nil_of_le h1, if_pos (by omega)]; rfl
   · rw [List.drop_eq_nil_of_le h1, List.drop_eq_nil_of_le h2, if_neg (by omega), if_neg (by omega)]; rfl

end Go.Proofs.YtmihponoillihaaGreatDoor

namespace Go.Proofs.YtmihponoillihaaGreatDoor
open Go.RowKit

set_option maxHeartbeats 400000 in
theorem l1In_any (n lo hi : Int) (w : World) :
 Calls Tryz.prog 127 #[.int .i64 n, .int .i64 lo, .int .i64 hi] w fun e w' => e = .returned (.bool (inB n lo hi)) ∧ w' = w := by
 by_cases h1 : lo ≤ n
 · by_cases h2 : n ≤ hi
   · have HD := Lib.hid (inB_yes h1 h2)
     go_enter Tryz.func127, Tryz.ntmps127
     go_wp2
     go_ret
     exact ⟨by rw [HD.out]; rfl, rfl⟩
   · have HD := Lib.hid (inB_high (lo := lo) (Int.not_le.1 h2))
     go_enter Tryz.func127, Tryz.ntmps127
     go_wp2
     go_ret
     exact ⟨by rw [HD.out]; rfl, rfl⟩
 · have HD := Lib.hid (inB_low (hi := hi) (Int.not_le.1 h1))
   go_enter Tryz.func127, Tryz.ntmps127
   go_wp2
   go_ret
   exact ⟨by rw [HD.out]; rfl, rfl⟩

set_option maxHeartbeats 1000000 in
theorem l1Letters_any (s : ByteArray) (w : World) (hs : s.size ≤ maxLen) :
 Calls Tryz.prog 125 #[.string s] w fun e w' => e = .returned (.bool (lettersB s)) ∧ w' = w := by
 unfold maxLen at hs
 go_enter Tryz.func125, Tryz.ntmps125
 go_wp2
 go_loop [3] (fun i => ∃ k : Nat, k ≤ s.size ∧ i = .int .i64 k ∧ Hid (plainB (s.data.toList.take k) = true)) (fun i => s.size - (intOf i).toNat)
 case atStart => exact ⟨0, Nat.zero_le _, rfl, rfl⟩
 case round =>
  obtain ⟨k, hk, rfl, hp⟩ := hrel
  by_cases hlt : k < s.size
  · have HT := Lib.hid (take_snoc' s k hlt)
    have hc : s[k].toNat < 256 := s[k].toNat_lt
    cases hd : lowDig s[k]
    · have HF := Lib.hid (show lettersB s = false from by
        have : plainB (s.data.toList.take (k + 1)) = false := by rw [HT.out, plainB_snoc, hd, Bool.and_false]
        unfold lettersB; rw [plainB_false this]; rfl)
      rcases lowDig_no hd with h | h | h
      all_goals
       clear hd
       go_wp2
       go_ret
       exact ⟨by rw [HF.out]; rfl, rfl⟩
    · have HP := Lib.hid (show plainB (s.data.toList.take (k + 1)) = true from by rw [HT.out, plainB_snoc, hd, hp.out]; rfl)
      rcases lowDig_yes hd with h | h
      all_goals
       clear hd
       go_wp2
       go_round
       case rel => exact ⟨k + 1, by omega, by go_num, HP⟩
       case measure => simp [intOf]; omega
  · have HF := Lib.hid (show inB s.size 1 8 = lettersB s from by
      have hkk : k = s.size := by omega
      have hp1 := hp.out
      rw [hkk, take_all] at hp1
      unfold lettersB; rw [hp1]; rfl)
    go_wp2_with (go_at_call 127; refine (l1In_any _ _ _ _).mono ?_; rintro e w' ⟨rfl, rfl⟩)
    go_ret
    exact ⟨by rw [← HF.out]; rfl, rfl⟩

set_option maxHeartbeats 400000 in
theorem specNameOk_any (s : ByteArray) (w : World) (hs : s.size ≤ maxLen) :
 Calls Tryz.prog 66 #[.string s] w fun e w' => e = .returned (.bool (nameOkB s)) ∧ w' = w := by
 have hw := l1Letters_any s w hs
 cases hl : lettersB s
 · have HF := Lib.hid (show nameOkB s = false from by unfold nameOkB; rw [hl]; rfl)
   rw [hl] at hw
   have HW := Lib.hid hw
   clear hw hl
   go_enter Tryz.func66, Tryz.ntmps66
   go_wp2_with (go_at_call 125; refine HW.out.mono ?_; rintro e w' ⟨rfl, rfl⟩)
   go_ret
   exact ⟨by rw [HF.out]; rfl, rfl⟩
 · have HF := Lib.hid (show nameOkB s = !(isNot s) from by unfold nameOkB; rw [hl]; rfl)
   rw [hl] at hw
   have HW := Lib.hid hw
   clear hw hl
   go_enter Tryz.func66, Tryz.ntmps66
   go_wp2_with (go_at_call 125; refine HW.out.mono ?_; rintro e w' ⟨rfl, rfl⟩)
   go_ret
   exact ⟨by rw [HF.out]; rfl, rfl⟩

theorem bool_ways {P : Program} {f : FuncId} {args : Array Value} {w : World} {b : Bool} {R : World → Prop} (h : Calls P f args w fun e w' => e = .returned (.bool b) ∧ R w') :
 (b = true → Calls P f args w fun e w' => e = .returned (.bool true) ∧ R w') ∧ (b = false → Calls P f args w fun e w' => e = .returned (.bool false) ∧ R w') :=
 ⟨fun hb => by rw [hb] at h; exact h, fun hb => by rw [hb] at h; exact h⟩

set_option maxHeartbeats 1000000 in
theorem l1Term_any (t : GT) (w : World) (hs : t.n.size ≤ maxLen) :
 Calls Tryz.prog 183 #[.agg #[.bool t.v, .string t.n]] w fun e w' => e = .returned (.bool (termOkB t)) ∧ Ext w w' := by
 obtain ⟨v, s⟩ := t
 cases v
 · have HF := Lib.hid (show termOkB ⟨false, s⟩ = nameOkB s from rfl)
   go_enter Tryz.func183, Tryz.ntmps183
   go_wp2_with (go_at_call 66; refine (specNameOk_any s _ hs).mono ?_; rintro e w' ⟨rfl, rfl⟩)
   go_ret
   exact ⟨by rw [HF.out]; rfl, (Ext.refl _).alloc _⟩
 · have HF := Lib.hid (show termOkB ⟨true, s⟩ = varOkB s from rfl)
   have hm : s.size ≤ 9223372036854775807 := hs
   by_cases h0 : s.size = 0
   · have HC := Lib.hid (show varOkB s = false from by
       have : s.data.toList = [] := by apply List.eq_nil_of_length_eq_zero; simpa using h0
       unfold varOkB capB; rw [this]; rfl)
     have H0 := Lib.hid h0
     have hz : (((s.size : Nat) : Int) == 0) = true := by simp [h0]
     clear h0
     go_enter Tryz.func183, Tryz.ntmps183
     go_wp2
     go_ret
     exact ⟨by rw [HF.out, HC.out]; rfl, (Ext.refl _).alloc _⟩
   · have hp : 0 < s.size := Nat.pos_of_ne_zero h0
     have hz : (((s.size : Nat) : Int) == 0) = false := by rw [beq_eq_false_iff_ne]; omega
     have hc : s[0].toNat < 256 := s[0].toNat_lt
     cases hu : upper s[0]
     · have HC := Lib.hid (show varOkB s = false from by unfold varOkB; rw [capB_cons hp, hu]; rfl)
       have hr : s[0].toNat < 65 ∨ 90 < s[0].toNat := by have h9 := of_decide_eq_false hu; clear hs hz; omega
       clear hu
       rcases hr with hr | hr
       all_goals
        go_enter Tryz.func183, Tryz.ntmps183
        go_wp2
        go_ret
        exact ⟨by rw [HF.out, HC.out]; rfl, (Ext.refl _).alloc _⟩
     · obtain ⟨hr1, hr2⟩ := of_decide_eq_true hu
       by_cases h1 : s.size = 1
       · have HC := Lib.hid (show varOkB s = true from by
           have hd : s.data.toList.drop 1 = [] := by apply List.eq_nil_of_length_eq_zero; simp [h1]
           unfold varOkB; rw [capB_cons hp, hu, hd, h1]; rfl)
         have hy : (((s.size : Nat) : Int) == 1) = true := by simp [h1]
         have H1 := Lib.hid h1
         clear h1 hu
         go_enter Tryz.func183, Tryz.ntmps183
         go_wp2
         go_ret
         exact ⟨by rw [HF.out, HC.out]; rfl, (Ext.refl _).alloc _⟩
       · have hy : (((s.size : Nat) : Int) == 1) = false := by rw [beq_eq_false_iff_ne]; omega
         have hv := varOk_long hp hu h1
         have hw := bool_ways (l1Letters_any (s.extract 1 s.size) (w.alloc (.cells #[.bool true, .string s] 71)) (by rw [tail_size _ _ hp]; exact Nat.le_trans (Nat.sub_le _ _) hs))
         cases hl : lettersB (s.extract 1 s.size)
         · have HX := Lib.hid (show varOkB s = false from by rw [hv, hl]; rfl)
           have HW := Lib.hid (hw.2 hl)
           clear h1 hu hw hv hl
           go_enter Tryz.func183, Tryz.ntmps183
           go_wp2_with (go_at_call 125; refine HW.out.mono ?_; rintro e w1 ⟨rfl, rfl⟩)
           go_ret
           exact ⟨by rw [HF.out, HX.out]; rfl, (Ext.refl _).alloc _⟩
         · have HW := Lib.hid (hw.1 hl)
           by_cases h8 : s.size ≤ 8
           · have HX := Lib.hid (show varOkB s = true from by rw [hv, hl]; simp [h8])
             clear h1 hu hw hv hl
             go_enter Tryz.func183, Tryz.ntmps183
             go_wp2_with (go_at_call 125; refine HW.out.mono ?_; rintro e w1 ⟨rfl, rfl⟩)
             go_ret
             exact ⟨by rw [HF.out, HX.out]; exact ret_bool (by simp; omega), (Ext.refl _).alloc _⟩
           · have HX := Lib.hid (show varOkB s = false from by rw [hv, hl]; simp [h8])
             clear h1 hu hw hv hl
             go_enter Tryz.func183, Tryz.ntmps183
             go_wp2_with (go_at_call 125; refine HW.out.mono ?_; rintro e w1 ⟨rfl, rfl⟩)
             go_ret
             exact ⟨by rw [HF.out, HX.out]; exact ret_bool (by simp; omega), (Ext.refl _).alloc _⟩

set_option maxRecDepth 100000 in
set_option maxHeartbeats 1000000 in
theorem specAtomOk_any (a : GA) (v : Value) (w : World) {S : Nat → Prop} (hs : a.n.size ≤ maxLen) (hv : TermsR S w v a.args) :
 Calls Tryz.prog 126 #[.agg #[.string a.n, v]] w fun e w' => e = .returned (.bool (atomOkB a)) ∧ Ext w w' := by
 obtain ⟨A, c, rfl, hc1, hc2⟩ := SliceR.form hv
 have HV := Lib.hid (hv.ext ((Ext.refl w).alloc (.cells #[.string a.n, .slice A a.args.length c] 54)))
 clear hv
 go_enter Tryz.func126, Tryz.ntmps126
 go_wp2
 go_loopw [3] (fun i wr => ∃ k : Nat, k ≤ a.args.length ∧ i = .int .i64 k ∧ Hid ((a.args.take k).all termOkB = true) ∧ Ext (w.alloc (.cells #[.string a.n, .slice A a.args.length c] 54)) wr) (fun i _ => a.args.length - (intOf i).toNat)
 case atStart => exact ⟨0, Nat.zero_le _, rfl, rfl, Ext.refl _⟩
 case round =>
  obtain ⟨k, hk, rfl, hp, hx⟩ := hrel
  obtain ⟨hcc, hcf⟩ := hx.cells
  by_cases hlt : k < a.args.length
  · obtain ⟨b, off, x, rfl, hb, hxk, hxs, hc0, hc1⟩ := TermsR.at_ (HV.out.ext hx) hlt
    have HK := Lib.hid hxk
    have hw := bool_ways (l1Term_any x wr hxs)
    clear hxk
    cases ht : termOkB x
    · have HF := Lib.hid (show atomOkB a = false from by unfold atomOkB; rw [all_false _ _ k x HK.out ht, Bool.and_false])
      have HW := Lib.hid (hw.2 ht)
      clear hw ht
      go_wp2_with (go_at_call 183; refine HW.out.mono ?_; rintro e w1 ⟨rfl, hx1⟩)
      go_ret
      exact ⟨by rw [HF.out]; rfl, ((Ext.refl _).alloc _).trans' (hx.trans' hx1)⟩
    · have HP := Lib.hid (show (a.args.take (k + 1)).all termOkB = true from by rw [all_snoc _ _ k x HK.out, hp.out, ht]; rfl)
      have HW := Lib.hid (hw.1 ht)
      clear hw ht
      go_wp2_with (go_at_call 183; refine HW.out.mono ?_; rintro e w1 ⟨rfl, hx1⟩)
      go_roundw
      case rel => exact ⟨k + 1, by omega, by go_num, HP, hx.trans' hx1⟩
      case measure => simp [intOf]; omega
  · have hall := all_whole _ _ k hlt hp.out
    have hw := bool_ways (specNameOk_any a.n wr hs)
    clear hp
    cases hn : nameOkB a.n
    · have HF := Lib.hid (show atomOkB a = false from by unfold atomOkB; rw [hn]; rfl)
      have HW := Lib.hid (hw.2 hn)
      clear hw hn hall
      go_wp2_with (go_at_call 66; refine HW.out.mono ?_; rintro e w1 ⟨rfl, rfl⟩)
      go_ret
      exact ⟨by rw [HF.out]; rfl, ((Ext.refl _).alloc _).trans' hx⟩
    · have HF := Lib.hid (show atomOkB a = decide (a.args.length ≤ 3) from by unfold atomOkB; rw [hn, hall]; simp)
      have HW := Lib.hid (hw.1 hn)
      clear hw hn hall
      go_wp2_with (go_at_call 66; refine HW.out.mono ?_; rintro e w1 ⟨rfl, rfl⟩)
      go_ret
      exact ⟨by rw [HF.out]; exact ret_bool (by simp; omega), ((Ext.refl _).alloc _).trans' hx⟩

end Go.Proofs.YtmihponoillihaaGreatDoor

namespace Go.Proofs.YtmihponoillihaaGreatDoor
open Go.RowKit

set_option maxHeartbeats 400000 in
theorem l1Texts_any (a b : ByteArray) (w : World) :
 Calls Tryz.prog 254 #[.string a, .string b] w fun e w' => e = .returned (.int .i64 (cmpS a b)) ∧ w' = w := by
 go_enter Tryz.func254, Tryz.ntmps254
 go_wp2
 · go_ret
   exact ⟨by rw [cmpS_less (by assumption)]; rfl, rfl⟩
 · go_ret
   exact ⟨by rw [cmpS_more (by assumption) (by assumption)]; rfl, rfl⟩
 · go_ret
   exact ⟨by rw [cmpS_same (by assumption) (by assumption)]; rfl, rfl⟩

set_option maxRecDepth 100000 in
set_option maxHeartbeats 2000000 in
theorem l1Cmp_any (a b : GA) (v u : Value) (w : World) {S T : Nat → Prop} (hv : TermsR S w v a.args) (hu : TermsR T w u b.args) :
 Calls Tryz.prog 185 #[.agg #[.string a.n, v], .agg #[.string b.n, u]] w fun e w' => e = .returned (.int .i64 (cmpA a b)) ∧ Ext w w' := by
 obtain ⟨A, c, rfl, hc1, hc2⟩ := SliceR.form hv
 obtain ⟨B, d, rfl, hd1, hd2⟩ := SliceR.form hu
 have HV := Lib.hid (hv.ext (((Ext.refl w).alloc (.cells #[.string a.n, .slice A a.args.length c] 54)).alloc (.cells #[.string b.n, .slice B b.args.length d] 54)))
 have HU := Lib.hid (hu.ext (((Ext.refl w).alloc (.cells #[.string a.n, .slice A a.args.length c] 54)).alloc (.cells #[.string b.n, .slice B b.args.length d] 54)))
 clear hv hu
 have hr0 := cmpS_range a.n b.n
 go_enter Tryz.func185, Tryz.ntmps185
 go_wp2_with (go_at_call 254; refine (l1Texts_any _ _ _).mono ?_; rintro e w' ⟨rfl, rfl⟩)
 go_loopw [5, 6] (fun q i wr => ∃ (k : Nat) (z : Int), (k ≤ a.args.length ∧ k ≤ b.args.length) ∧ i = .int .i64 k ∧ q = .int .i64 z ∧ Hid (cmpA a b = cmpFrom a.args b.args k z) ∧ (z = -1 ∨ z = 0 ∨ z = 1) ∧ Ext ((w.alloc (.cells #[.string a.n, .slice A a.args.length c] 54)).alloc (.cells #[.string b.n, .slice B b.args.length d] 54)) wr) (fun _ i _ => a.args.length - (intOf i).toNat)
 case atStart => exact ⟨0, _, ⟨Nat.zero_le _, Nat.zero_le _⟩, rfl, rfl, rfl, hr0, Ext.refl _⟩
 case round =>
  obtain ⟨k, z, ⟨hk1, hk2⟩, rfl, rfl, hz, hzr, hx⟩ := hrel
  obtain ⟨hcc, hcf⟩ := hx.cells
  clear hr0
  by_cases hq : z = 0
  · have hq0 : ((z : Int) == 0) = true := by simp [hq]
    obtain rfl : (0 : Int) = z := hq.symm
    clear hzr hq hq0
    by_cases h1 : k < a.args.length
    · by_cases h2 : k < b.args.length
      · obtain ⟨ba, offa, x, rfl, hba, hxk, hxs, hx0, hx1⟩ := TermsR.at_ (HV.out.ext hx) h1
        obtain ⟨bb, offb, y, rfl, hbb, hyk, hys, hy0, hy1⟩ := TermsR.at_ (HU.out.ext hx) h2
        have HZ := Lib.hid (hz.out.trans (cmpFrom_step hxk hyk))
        have hr1 := Lib.hid (cmpS_range x.n y.n)
        have hk0 : (0 : Int) ≤ (k : Int) := Int.natCast_nonneg _
        have hi1 : (k : Int) < (a.args.length : Int) := by omega
        have hi2 : (k : Int) < (b.args.length : Int) := by omega
        clear hxk hyk hz
        go_wp2_with fail
        go_still_tail 12, (by kernel_rfl)
        change wpList _ _ _ _ _ wr.drew
        go_wp2_with (go_at_call 254; refine (l1Texts_any _ _ _).mono ?_; rintro e w1 ⟨rfl, rfl⟩)
        go_roundw
        case rel => exact ⟨k + 1, _, ⟨by omega, by omega⟩, by go_num, rfl, HZ, hr1.out, hx.drew⟩
        case measure => simp [intOf]; omega
      · have HZ := Lib.hid (hz.out.trans (cmpFrom_end (.inr (by omega)) ⟨hk1, hk2⟩))
        clear hz
        have hl : b.args.length < a.args.length := by omega
        go_wp2
        go_ret
        exact ⟨by rw [HZ.out, if_neg (by omega), if_pos hl]; rfl, (((Ext.refl _).alloc _).alloc _).trans' hx⟩
    · have HZ := Lib.hid (hz.out.trans (cmpFrom_end (.inl (by omega)) ⟨hk1, hk2⟩))
      clear hz
      by_cases hl : a.args.length < b.args.length
      · go_wp2
        go_ret
        exact ⟨by rw [HZ.out, if_pos hl]; rfl, (((Ext.refl _).alloc _).alloc _).trans' hx⟩
      · go_wp2
        go_ret
        exact ⟨by rw [HZ.out, if_neg (by omega), if_neg (by omega)]; rfl, (((Ext.refl _).alloc _).alloc _).trans' hx⟩
  · have HZ := Lib.hid (hz.out.trans (cmpFrom_done hq))
    have hq0 : ((z : Int) == 0) = false := by simp [hq]
    have hq1 : ((z : Int) != 0) = true := by simp [hq]
    clear hz hq hzr
    by_cases h1 : k < a.args.length
    · by_cases h2 : k < b.args.length
      · go_wp2
        go_ret
        exact ⟨by rw [HZ.out]; rfl, (((Ext.refl _).alloc _).alloc _).trans' hx⟩
      · go_wp2
        go_ret
        exact ⟨by rw [HZ.out]; rfl, (((Ext.refl _).alloc _).alloc _).trans' hx⟩
    · go_wp2
      go_ret
      exact ⟨by rw [HZ.out]; rfl, (((Ext.refl _).alloc _).alloc _).trans' hx⟩

end Go.Proofs.YtmihponoillihaaGreatDoor

namespace Go.Proofs.YtmihponoillihaaGreatDoor
open Go.RowKit

/-- A world in which nothing that w had has turned. -/
structure Later (w : World) : Type where
 at_ : World
 ext : Ext w at_

instance (w : World) : Nonempty (Later w) := ⟨⟨w, Ext.refl w⟩⟩

@[go_sem] theorem later_cell {w : World} (n : Later w) (b o : Nat) (h : b < w.heap.size) : n.at_.cell? ⟨b, o, none⟩ = w.cell? ⟨b, o, none⟩ := (Ext.cells n.ext).1 b o h
@[go_sem] theorem later_frozen {w : World} (n : Later w) (b o : Nat) (h : b < w.heap.size) : n.at_.frozen? ⟨b, o, none⟩ = w.frozen? ⟨b, o, none⟩ := (Ext.cells n.ext).2 b o h

theorem calm_region {P : Program} {id : Nat} {Q : Exit → Act → World → Prop} {a : Act} {w : World} {l : List Oper} (hm : P.follows .mixedOrders = true) (hB : Region.lexB .any l.toArray = true)
 (h : wpQuiet P l.toArray (fun w' => ∃ n : Later w, w' = n.at_) (fun a' => ∀ w', (∃ n : Later w, w' = n.at_) → Q .normal a' w') l a) : (Code.region id l.toArray true).wp P Q a w :=
 wp_region_quiet (C := fun w' => ∃ n : Later w, w' = n.at_) hm hB ⟨⟨w.drew, (Ext.refl w).drew⟩, rfl⟩ (by simpa using h)

theorem calm_call {P : Program} {f : FuncId} {args : Array Value} {w : World} {n : Later w} {v : Value} (h : Calls P f args n.at_ fun e w' => e = .returned v ∧ Ext n.at_ w') :
 Calls P f args n.at_ fun e w'' => e = .returned v ∧ ∃ m : Later w, w'' = m.at_ :=
 h.mono fun _ w'' ⟨he, hx⟩ => ⟨he, ⟨w'', n.ext.trans' hx⟩, rfl⟩
end Go.Proofs.YtmihponoillihaaGreatDoor

namespace Go.Proofs.YtmihponoillihaaGreatDoor
open Go.RowKit

def noVar (t : GT) : Bool := !t.v
theorem noVar_yes {t : GT} (h : t.v = false) : noVar t = true := by unfold noVar; rw [h]; rfl
theorem noVar_no {t : GT} (h : t.v = true) : noVar t = false := by unfold noVar; rw [h]; rfl

set_option maxRecDepth 100000 in
set_option maxHeartbeats 1000000 in
theorem l3Ground_any (a : GA) (v : Value) (w : World) {S : Nat → Prop} (hs : a.n.size ≤ maxLen) (hv : TermsR S w v a.args) :
 Calls Tryz.prog 203 #[.agg #[.string a.n, v]] w fun e w' => e = .returned (.bool (factB a)) ∧ Ext w w' := by
 obtain ⟨A, c, rfl, hc1, hc2⟩ := SliceR.form hv
 have HV := Lib.hid (hv.ext ((Ext.refl w).alloc (.cells #[.string a.n, .slice A a.args.length c] 54)))
 clear hv
 go_enter Tryz.func203, Tryz.ntmps203
 go_wp2
 go_loopw [3] (fun i wr => ∃ k : Nat, k ≤ a.args.length ∧ i = .int .i64 k ∧ Hid ((a.args.take k).all noVar = true) ∧ wr = w.alloc (.cells #[.string a.n, .slice A a.args.length c] 54)) (fun i _ => a.args.length - (intOf i).toNat)
 case atStart => exact ⟨0, Nat.zero_le _, rfl, rfl, rfl⟩
 case round =>
  obtain ⟨k, hk, rfl, hp, rfl⟩ := hrel
  by_cases hlt : k < a.args.length
  · obtain ⟨b, off, x, rfl, hb, hxk, hxs, hc0, hc1⟩ := TermsR.at_ HV.out hlt
    have HK := Lib.hid hxk
    clear hxk
    cases ht : x.v
    · have HP := Lib.hid (show (a.args.take (k + 1)).all noVar = true from by rw [all_snoc _ _ k x HK.out, hp.out, noVar_yes ht]; rfl)
      rw [ht] at hc0
      clear ht
      go_wp2
      go_roundw
      case rel => exact ⟨k + 1, by omega, by go_num, HP, trivial⟩
      case measure => simp [intOf]; omega
    · have HF := Lib.hid (show factB a = false from by unfold factB; rw [show (a.args.all fun t => !t.v) = false from all_false noVar _ k x HK.out (noVar_no ht), Bool.and_false])
      rw [ht] at hc0
      clear ht
      go_wp2
      go_ret
      exact ⟨by rw [HF.out]; rfl, (Ext.refl _).alloc _⟩
  · have HF := Lib.hid (show factB a = atomOkB a from by unfold factB; rw [show (a.args.all fun t => !t.v) = true from all_whole noVar _ k hlt hp.out, Bool.and_true])
    go_wp2_with (go_at_call 126; refine (specAtomOk_any a _ _ hs HV.out).mono ?_; rintro e w1 ⟨rfl, hx1⟩)
    go_ret
    exact ⟨by rw [HF.out]; rfl, ((Ext.refl _).alloc _).trans' hx1⟩

def ltA (a b : GA) : Bool := decide (cmpA a b < 0)
/-- In order, each once. -/
def ascB : List GA → Bool
 | [] => true
 | [_] => true
 | a :: b :: l => ltA a b && ascB (b :: l)
def factsB (l : List GA) (most : Nat) : Bool := l.all factB && ascB l && decide (l.length ≤ most)

theorem ascB_snoc : ∀ (l : List GA) (a b : GA), ascB (l ++ [a, b]) = (ascB (l ++ [a]) && ltA a b)
 | [], a, b => by simp [ascB]
 | [c], a, b => by simp [ascB]
 | c :: d :: l, a, b => by
   have := ascB_snoc (d :: l) a b
   simp only [List.cons_append] at this ⊢
   simp only [ascB, this, Bool.and_assoc]

theorem ascB_false_append : ∀ (l m : List GA), ascB l = false → ascB (l ++ m) = false
 | [], m, h => by simp [ascB] at h
 | [c], m, h => by simp [ascB] at h
 | c :: d :: l, m, h => by
   simp only [List.cons_append, ascB, Bool.and_eq_false_iff] at h ⊢
   rcases h with h | h
   · exact .inl h
   · exact .inr (ascB_false_append (d :: l) m h)

/-- The first k are in order. -/
def ascTo (l : List GA) (k : Nat) : Bool := ascB (l.take k)
theorem ascTo_one {l : List GA} {a : GA} (h : l[0]? = some a) : ascTo l 1 = true := by
 unfold ascTo; cases l with
 | nil => simp at h
 | cons b l => rfl
theorem take_two {l : List GA} {k : Nat} {a b : GA} (ha : l[k]? = some a) (hb : l[k + 1]? = some b) : l.take (k + 2) = l.take k ++ [a, b] ∧ l.take (k + 1) = l.take k ++ [a] := by
 obtain ⟨h1, rfl⟩ := List.getElem?_eq_some_iff.1 ha
 obtain ⟨h2, rfl⟩ := List.getElem?_eq_some_iff.1 hb
 have e1 := List.take_succ_eq_append_getElem h1
 have e2 := List.take_succ_eq_append_getElem h2
 exact ⟨by rw [e2, e1, List.append_assoc]; rfl, e1⟩
theorem ascTo_step {l : List GA} {k : Nat} {a b : GA} (ha : l[k]? = some a) (hb : l[k + 1]? = some b) : ascTo l (k + 2) = (ascTo l (k + 1) && ltA a b) := by
 obtain ⟨e1, e2⟩ := take_two ha hb
 unfold ascTo; rw [e1, e2, ascB_snoc]
theorem ascTo_false {l : List GA} {k : Nat} (h : ascTo l k = false) : ascB l = false := by
 rw [← List.take_append_drop k l]; exact ascB_false_append _ _ h

set_option maxRecDepth 100000 in
set_option maxHeartbeats 2000000 in
theorem l3Ok_any (v : Value) (xs : List GA) (most : Nat) (w : World) {S : Nat → Prop} (hv : AtomsR S w v xs) :
 Calls Tryz.prog 167 #[v, .int .i64 most] w fun e w' => e = .returned (.bool (factsB xs most)) ∧ Ext w w' := by
 obtain ⟨A, c, rfl, hc1, hc2⟩ := SliceR.form hv
 have HV := Lib.hid hv
 clear hv
 go_enter Tryz.func167, Tryz.ntmps167
 go_wp2
 go_loopw [5] (fun i wr => ∃ k : Nat, k ≤ xs.length ∧ i = .int .i64 k ∧ Hid ((xs.take k).all factB = true) ∧ Hid (ascTo xs k = true) ∧ Ext w wr) (fun i _ => xs.length - (intOf i).toNat)
 case atStart => exact ⟨0, Nat.zero_le _, rfl, rfl, rfl, Ext.refl _⟩
 case round =>
  obtain ⟨k, hk, rfl, hp, ha, hx⟩ := hrel
  have hk0 : (0 : Int) ≤ (k : Int) := Int.natCast_nonneg _
  by_cases hlt : k < xs.length
  · obtain ⟨b, off, x, v1, rfl, hb, hxk, hxs, ht, hc0, hc1⟩ := AtomsR.at_ (HV.out.ext hx) hlt
    have hk1 : (k : Int) < (xs.length : Int) := by omega
    have HK := Lib.hid hxk
    have HT := Lib.hid ht
    clear hxk ht
    cases hf : factB x
    · have HF := Lib.hid (show factsB xs most = false from by unfold factsB; rw [all_false factB _ k x HK.out hf]; rfl)
      have HW := Lib.hid (fun (W : World) (h : Ext wr W) => (bool_ways (l3Ground_any x v1 W hxs (HT.out.ext h))).2 hf)
      clear hf
      go_wp2_with fail
      refine calm_region (by kernel_rfl) (by kernel_rfl) ?_
      repeat (go_big_quiet_step ((go_at_call 203; exact calm_call (HW.out _ (Later.ext _)))))
      refine wpQuiet_nil ?_
      rintro w1 ⟨⟨_, hx1⟩, rfl⟩
      go_wp2
      go_ret
      exact ⟨by rw [HF.out]; rfl, hx.trans' hx1⟩
    · have HW := Lib.hid (fun (W : World) (h : Ext wr W) => (bool_ways (l3Ground_any x v1 W hxs (HT.out.ext h))).1 hf)
      have HP := Lib.hid (show (xs.take (k + 1)).all factB = true from by rw [all_snoc _ _ k x HK.out, hp.out, hf]; rfl)
      clear hf hp
      by_cases hk2 : k < 1
      · have HA := Lib.hid (show ascTo xs (k + 1) = true from by
          obtain rfl : k = 0 := by omega
          exact ascTo_one HK.out)
        have hg : decide (0 < k) = false := decide_eq_false (by omega)
        go_wp2_with fail
        refine calm_region (by kernel_rfl) (by kernel_rfl) ?_
        repeat (go_big_quiet_step ((go_at_call 203; exact calm_call (HW.out _ (Later.ext _)))))
        refine wpQuiet_nil ?_
        rintro w1 ⟨⟨_, hx1⟩, rfl⟩
        go_wp2
        go_roundw
        case rel => exact ⟨k + 1, by omega, by go_num, HP, HA, hx.trans' hx1⟩
        case measure => simp [intOf]; omega
      · obtain ⟨j, rfl⟩ : ∃ j, k = j + 1 := ⟨k - 1, by omega⟩
        obtain ⟨b', off', y, v2, hbb, hb', hyk, hys, ht', hd0, hd1⟩ := AtomsR.at_ (HV.out.ext hx) (k := j) (by omega)
        injection hbb with hbb
        injection hbb with e1 e2
        subst e1; subst e2
        have HY := Lib.hid ht'
        have HS := Lib.hid (ascTo_step hyk HK.out)
        have HC := Lib.hid (fun (W : World) (h : Ext wr W) => l1Cmp_any y x v2 v1 W (HY.out.ext h) (HT.out.ext h))
        have hj0 : (0 : Int) ≤ (j : Int) := Int.natCast_nonneg _
        have hj1 : (j : Int) < (xs.length : Int) := by omega
        clear ht' hyk hk0
        by_cases hcmp : cmpA y x < 0
        · have HA := Lib.hid (show ascTo xs (j + 1 + 1) = true from by rw [HS.out, ha.out]; unfold ltA; simp [hcmp])
          go_wp2_with fail
          refine calm_region (by kernel_rfl) (by kernel_rfl) ?_
          repeat (go_big_quiet_step ((first | (go_at_call 203; exact calm_call (HW.out _ (Later.ext _))) | (go_at_call 185; exact calm_call (HC.out _ (Later.ext _))))))
          refine wpQuiet_nil ?_
          rintro w1 ⟨⟨_, hx1⟩, rfl⟩
          go_wp2
          go_roundw
          case rel => exact ⟨j + 1 + 1, by omega, by go_num, HP, HA, hx.trans' hx1⟩
          case measure => simp [intOf]; omega
        · have HF := Lib.hid (show factsB xs most = false from by
            have : ascTo xs (j + 1 + 1) = false := by rw [HS.out]; unfold ltA; simp [hcmp]
            unfold factsB; rw [ascTo_false this]; simp)
          go_wp2_with fail
          refine calm_region (by kernel_rfl) (by kernel_rfl) ?_
          repeat (go_big_quiet_step ((first | (go_at_call 203; exact calm_call (HW.out _ (Later.ext _))) | (go_at_call 185; exact calm_call (HC.out _ (Later.ext _))))))
          refine wpQuiet_nil ?_
          rintro w1 ⟨⟨_, hx1⟩, rfl⟩
          go_wp2
          go_ret
          exact ⟨by rw [HF.out]; rfl, hx.trans' hx1⟩
  · have HF := Lib.hid (show factsB xs most = decide (xs.length ≤ most) from by
      have h1 := all_whole factB _ k hlt hp.out
      have h2 := ha.out
      unfold ascTo at h2
      rw [List.take_of_length_le (by omega)] at h2
      unfold factsB; rw [h1, h2]; rfl)
    go_wp2
    go_ret
    exact ⟨by rw [HF.out]; exact ret_bool (by simp), hx⟩

theorem specFactsOk_any (v : Value) (xs : List GA) (w : World) {S : Nat → Prop} (hv : AtomsR S w v xs) :
 Calls Tryz.prog 103 #[v] w fun e w' => e = .returned (.bool (factsB xs 300)) ∧ Ext w w' := by
 obtain ⟨A, c, rfl, hc1, hc2⟩ := SliceR.form hv
 have HV := Lib.hid hv
 clear hv
 go_enter Tryz.func103, Tryz.ntmps103
 go_wp2_with (go_at_call 167; refine (l3Ok_any _ xs 300 _ HV.out).mono ?_; rintro e w1 ⟨rfl, hx1⟩)
 go_ret
 exact ⟨rfl, hx1⟩

end Go.Proofs.YtmihponoillihaaGreatDoor

namespace Go.Proofs.YtmihponoillihaaGreatDoor
open Go.RowKit

/-- The place of a fact, or where it would come. -/
def placeA (l : List GA) (a : GA) : Nat := (l.takeWhile fun x => ltA x a).length
def isAt (l : List GA) (k : Nat) (a : GA) : Bool := match l[k]? with | some x => decide (cmpA x a = 0) | none => false
def hasA (l : List GA) (a : GA) : Bool := isAt l (placeA l a) a

theorem place_eq : ∀ (l : List GA) (a : GA) (k : Nat), ((l.take k).all fun x => ltA x a) = true → k ≤ l.length → (∀ x, l[k]? = some x → ltA x a = false) → placeA l a = k
 | [], a, k, _, hk, _ => by have : k = 0 := by simpa using hk
                            subst this; rfl
 | x :: l, a, 0, _, _, hx => by
   have := hx x rfl
   unfold placeA; rw [List.takeWhile_cons, if_neg (by simp [this])]; rfl
 | x :: l, a, k + 1, h, hk, hx => by
   simp only [List.take_succ_cons, List.all_cons, Bool.and_eq_true] at h
   have ih := place_eq l a k h.2 (by simpa using hk) (fun y hy => hx y (by simpa using hy))
   unfold placeA at ih ⊢
   rw [List.takeWhile_cons, if_pos h.1, List.length_cons, ih]

set_option maxRecDepth 100000 in
set_option maxHeartbeats 2000000 in
theorem l3At_any (v u : Value) (xs : List GA) (a : GA) (w : World) {S T : Nat → Prop} (hv : AtomsR S w v xs) (hu : TermsR T w u a.args) :
 Calls Tryz.prog 131 #[v, .agg #[.string a.n, u]] w fun e w' => e = .returned (.tuple #[.int .i64 (placeA xs a), .bool (hasA xs a)]) ∧ Ext w w' := by
 obtain ⟨A, c, rfl, hc1, hc2⟩ := SliceR.form hv
 obtain ⟨B, d, rfl, hd1, hd2⟩ := SliceR.form hu
 have HV := Lib.hid (hv.ext ((Ext.refl w).alloc (.cells #[.string a.n, .slice B a.args.length d] 54)))
 have HU := Lib.hid (hu.ext ((Ext.refl w).alloc (.cells #[.string a.n, .slice B a.args.length d] 54)))
 clear hv hu
 go_enter Tryz.func131, Tryz.ntmps131
 go_wp2
 go_loopw [6] (fun i wr => ∃ k : Nat, k ≤ xs.length ∧ i = .int .i64 k ∧ Hid (((xs.take k).all fun x => ltA x a) = true) ∧ Ext (w.alloc (.cells #[.string a.n, .slice B a.args.length d] 54)) wr) (fun i _ => xs.length - (intOf i).toNat)
 case atStart => exact ⟨0, Nat.zero_le _, rfl, rfl, Ext.refl _⟩
 case round =>
  obtain ⟨k, hk, rfl, hp, hx⟩ := hrel
  obtain ⟨hcc, hcf⟩ := hx.cells
  have hz1 := hx.size
  simp only [World.size_alloc] at hz1
  have hz2 : w.heap.size < wr.heap.size := by omega
  have hk0 : (0 : Int) ≤ (k : Int) := Int.natCast_nonneg _
  by_cases hlt : k < xs.length
  · obtain ⟨b, off, x, v1, rfl, hb, hxk, hxs, ht, hc0, hc1⟩ := AtomsR.at_ (HV.out.ext hx) hlt
    have hk1 : (k : Int) < (xs.length : Int) := by omega
    have HK := Lib.hid hxk
    have HC := Lib.hid (fun (W : World) (h : Ext wr W) => l1Cmp_any x a v1 _ W (ht.ext h) (HU.out.ext (hx.trans' h)))
    have hg : decide (k < xs.length) = true := decide_eq_true hlt
    clear hxk ht hz1
    by_cases hcmp : cmpA x a < 0
    · have HA := Lib.hid (show ((xs.take (k + 1)).all fun x => ltA x a) = true from by rw [all_snoc _ _ k x HK.out, hp.out]; unfold ltA; simp [hcmp])
      go_wp2_with fail
      refine calm_region (by kernel_rfl) (by kernel_rfl) ?_
      repeat (go_big_quiet_step ((go_at_call 185; exact calm_call (HC.out _ (Later.ext _)))))
      refine wpQuiet_nil ?_
      rintro w1 ⟨⟨_, hx1⟩, rfl⟩
      go_wp2
      go_roundw
      case rel => exact ⟨k + 1, by omega, by go_num, HA, hx.trans' hx1⟩
      case measure => simp [intOf]; omega
    · have HA := Lib.hid (place_eq xs a k hp.out hk (fun y hy => by rw [HK.out] at hy; injection hy with hy; subst hy; unfold ltA; simp [hcmp]))
      have HI := Lib.hid (show hasA xs a = decide (cmpA x a = 0) from by unfold hasA; rw [HA.out]; unfold isAt; rw [HK.out])
      go_wp2_with fail
      refine calm_region (by kernel_rfl) (by kernel_rfl) ?_
      repeat (go_big_quiet_step ((go_at_call 185; exact calm_call (HC.out _ (Later.ext _)))))
      refine wpQuiet_nil ?_
      rintro w1 ⟨⟨_, hx1⟩, rfl⟩
      have HC1 := Lib.hid (fun (W : World) (h : Ext w1 W) => HC.out W (hx1.trans' h))
      obtain ⟨hcc1, hcf1⟩ := hx1.cells
      have hz3 := hx1.size
      have hz4 : w.heap.size < w1.heap.size := by omega
      have hb1 : b < w1.heap.size := by omega
      clear HC hz3
      go_wp2_with fail
      refine calm_region (by kernel_rfl) (by kernel_rfl) ?_
      repeat (go_big_quiet_step ((go_at_call 185; exact calm_call (HC1.out _ (Later.ext _)))))
      refine wpQuiet_nil ?_
      rintro w2 ⟨⟨_, hx2⟩, rfl⟩
      go_wp2
      go_ret2
      exact ⟨by rw [HA.out, HI.out]; simp; rw [Bool.eq_iff_iff]; simp, (((Ext.refl _).alloc _).trans' (hx.trans' hx1)).trans' hx2⟩
  · have HA := Lib.hid (place_eq xs a k hp.out hk (fun y hy => by rw [List.getElem?_eq_none (by omega)] at hy; cases hy))
    have HI := Lib.hid (show hasA xs a = false from by unfold hasA; rw [HA.out]; unfold isAt; rw [List.getElem?_eq_none (by omega)])
    have hg : decide (k < xs.length) = false := decide_eq_false hlt
    clear hz1
    go_wp2_with fail
    refine calm_region (by kernel_rfl) (by kernel_rfl) ?_
    repeat (go_big_quiet_step (fail))
    refine wpQuiet_nil ?_
    rintro w1 ⟨⟨_, hx1⟩, rfl⟩
    obtain ⟨hcc1, hcf1⟩ := hx1.cells
    go_wp2_with fail
    refine calm_region (by kernel_rfl) (by kernel_rfl) ?_
    repeat (go_big_quiet_step (fail))
    refine wpQuiet_nil ?_
    rintro w2 ⟨⟨_, hx2⟩, rfl⟩
    go_wp2
    go_ret2
    exact ⟨by rw [HA.out, HI.out]; rfl, (((Ext.refl _).alloc _).trans' (hx.trans' hx1)).trans' hx2⟩

set_option maxHeartbeats 1000000 in
theorem l3Has_any (v u : Value) (xs : List GA) (a : GA) (w : World) {S T : Nat → Prop} (hv : AtomsR S w v xs) (hu : TermsR T w u a.args) :
 Calls Tryz.prog 104 #[v, .agg #[.string a.n, u]] w fun e w' => e = .returned (.bool (hasA xs a)) ∧ Ext w w' := by
 obtain ⟨A, c, rfl, hc1, hc2⟩ := SliceR.form hv
 obtain ⟨B, d, rfl, hd1, hd2⟩ := SliceR.form hu
 have HV := Lib.hid (hv.ext ((Ext.refl w).alloc (.cells #[.string a.n, .slice B a.args.length d] 54)))
 have HU := Lib.hid (hu.ext ((Ext.refl w).alloc (.cells #[.string a.n, .slice B a.args.length d] 54)))
 clear hv hu
 go_enter Tryz.func104, Tryz.ntmps104
 go_wp2_with (go_at_call 131; refine (l3At_any _ _ xs a _ HV.out HU.out).mono ?_; rintro e w1 ⟨rfl, hx1⟩)
 go_ret
 exact ⟨rfl, ((Ext.refl _).alloc _).trans' hx1⟩

def commonB (l m : List GA) : Bool := l.any fun x => hasA m x
def changeOkB (c : GC) : Bool := factsB c.comes 300 && factsB c.goes 300 && !commonB c.comes c.goes

set_option maxRecDepth 100000 in
set_option maxHeartbeats 2000000 in
theorem specChangeOk_any (g : GC) (v u : Value) (w : World) {S T : Nat → Prop} (hv : AtomsR S w v g.comes) (hu : AtomsR T w u g.goes) :
 Calls Tryz.prog 47 #[.agg #[v, u]] w fun e w' => e = .returned (.bool (changeOkB g)) ∧ Ext w w' := by
 obtain ⟨A, c, rfl, hc1, hc2⟩ := SliceR.form hv
 obtain ⟨B, d, rfl, hd1, hd2⟩ := SliceR.form hu
 have HV := Lib.hid (hv.ext ((Ext.refl w).alloc (.cells #[.slice A g.comes.length c, .slice B g.goes.length d] 32)))
 have HU := Lib.hid (hu.ext ((Ext.refl w).alloc (.cells #[.slice A g.comes.length c, .slice B g.goes.length d] 32)))
 clear hv hu
 have hw1 := bool_ways (specFactsOk_any _ g.comes _ HV.out)
 cases h1 : factsB g.comes 300
 · have HF := Lib.hid (show changeOkB g = false from by unfold changeOkB; rw [h1]; rfl)
   have HW := Lib.hid (hw1.2 h1)
   clear hw1 h1
   go_enter Tryz.func47, Tryz.ntmps47
   go_wp2_with (go_at_call 103; refine HW.out.mono ?_; rintro e w1 ⟨rfl, hx1⟩)
   go_ret
   exact ⟨by rw [HF.out]; rfl, ((Ext.refl _).alloc _).trans' hx1⟩
 · have HW := Lib.hid (hw1.1 h1)
   clear hw1
   have tok : True := trivial
   cases h2 : factsB g.goes 300
   · have HF := Lib.hid (show changeOkB g = false from by unfold changeOkB; rw [h2]; simp)
     have H2 := Lib.hid h2
     clear h1 h2
     go_enter Tryz.func47, Tryz.ntmps47
     go_wp2_with (first
      | (go_at_call 103; have _t := tok; refine HW.out.mono ?_; clear tok _t; rintro e w1 ⟨rfl, hx1⟩; obtain ⟨hcc, hcf⟩ := hx1.cells)
      | (go_at_call 103; refine ((bool_ways (specFactsOk_any _ g.goes _ (HU.out.ext hx1))).2 H2.out).mono ?_; rintro e w2 ⟨rfl, hx2⟩))
     go_ret
     exact ⟨by rw [HF.out]; rfl, (((Ext.refl _).alloc _).trans' hx1).trans' hx2⟩
   · have HF := Lib.hid (show changeOkB g = !commonB g.comes g.goes from by unfold changeOkB; rw [h1, h2]; rfl)
     have H2 := Lib.hid h2
     clear h1 h2
     go_enter Tryz.func47, Tryz.ntmps47
     go_wp2_with (first
      | (go_at_call 103; have _t := tok; refine HW.out.mono ?_; clear tok _t; rintro e w1 ⟨rfl, hx1⟩; obtain ⟨hcc, hcf⟩ := hx1.cells)
      | (go_at_call 103; refine ((bool_ways (specFactsOk_any _ g.goes _ (HU.out.ext hx1))).1 H2.out).mono ?_; rintro e w2 ⟨rfl, hx2⟩))
     go_loopw [3] (fun i wr => ∃ k : Nat, k ≤ g.comes.length ∧ i = .int .i64 k ∧ Hid (((g.comes.take k).all fun x => !hasA g.goes x) = true) ∧ Ext (w.alloc (.cells #[.slice A g.comes.length c, .slice B g.goes.length d] 32)) wr) (fun i _ => g.comes.length - (intOf i).toNat)
     case atStart => exact ⟨0, Nat.zero_le _, rfl, rfl, hx1.trans' hx2⟩
     case round =>
      obtain ⟨k, hk, rfl, hp, hx⟩ := hrel
      clear hcc hcf
      obtain ⟨hcc, hcf⟩ := hx.cells
      have hz1 := hx.size
      simp only [World.size_alloc] at hz1
      have hz2 : w.heap.size < wr.heap.size := by omega
      have hk0 : (0 : Int) ≤ (k : Int) := Int.natCast_nonneg _
      by_cases hlt : k < g.comes.length
      · obtain ⟨b, off, x, v1, rfl, hb, hxk, hxs, ht, hc0, hc1⟩ := AtomsR.at_ (HV.out.ext hx) hlt
        have hk1 : (k : Int) < (g.comes.length : Int) := by omega
        have HK := Lib.hid hxk
        have HT := Lib.hid ht
        clear hxk ht hz1
        cases hh : hasA g.goes x
        · have HC := Lib.hid (fun (W : World) (h : Ext wr W) => (bool_ways (l3Has_any _ v1 g.goes x W (HU.out.ext (hx.trans' h)) (HT.out.ext h))).2 hh)
          have HP := Lib.hid (show ((g.comes.take (k + 1)).all fun x => !hasA g.goes x) = true from by rw [all_snoc _ _ k x HK.out, hp.out, hh]; rfl)
          clear hh
          go_wp2_with fail
          refine calm_region (by kernel_rfl) (by kernel_rfl) ?_
          repeat (go_big_quiet_step ((go_at_call 104; exact calm_call (HC.out _ (Later.ext _)))))
          refine wpQuiet_nil ?_
          rintro w3 ⟨⟨_, hx3⟩, rfl⟩
          go_wp2
          go_roundw
          case rel => exact ⟨k + 1, by omega, by go_num, HP, hx.trans' hx3⟩
          case measure => simp [intOf]; omega
        · have HC := Lib.hid (fun (W : World) (h : Ext wr W) => (bool_ways (l3Has_any _ v1 g.goes x W (HU.out.ext (hx.trans' h)) (HT.out.ext h))).1 hh)
          have HP := Lib.hid (show commonB g.comes g.goes = true from by unfold commonB; rw [List.any_eq_true]; exact ⟨x, List.mem_of_getElem? HK.out, hh⟩)
          clear hh
          go_wp2_with fail
          refine calm_region (by kernel_rfl) (by kernel_rfl) ?_
          repeat (go_big_quiet_step ((go_at_call 104; exact calm_call (HC.out _ (Later.ext _)))))
          refine wpQuiet_nil ?_
          rintro w3 ⟨⟨_, hx3⟩, rfl⟩
          go_wp2
          go_ret
          exact ⟨by rw [HF.out, HP.out]; rfl, ((Ext.refl _).alloc _).trans' (hx.trans' hx3)⟩
      · have HP := Lib.hid (show commonB g.comes g.goes = false from by
          have h := all_whole (fun x => !hasA g.goes x) _ k hlt hp.out
          unfold commonB; rw [List.any_eq_false]; intro x hx1; have := List.all_eq_true.1 h x hx1; simpa using this)
        go_wp2
        go_ret
        exact ⟨by rw [HF.out, HP.out]; rfl, ((Ext.refl _).alloc _).trans' hx⟩

end Go.Proofs.YtmihponoillihaaGreatDoor

namespace Go.Proofs.YtmihponoillihaaGreatDoor
open Go.RowKit

theorem term_info : (Tryz.prog.info? 71).map (fun i => (i.zero, i.size, i.bytes)) = some (some (.agg #[.bool false, .string ByteArray.empty]), 2, 24) := by kernel_rfl

theorem atom_info : (Tryz.prog.info? 54).map (fun i => (i.zero, i.size, i.bytes)) = some (some (.agg #[.string ByteArray.empty, .slice none 0 0]), 2, 40) := by kernel_rfl

end Go.Proofs.YtmihponoillihaaGreatDoor

namespace Go.Proofs.YtmihponoillihaaGreatDoor
open Go.RowKit

set_option maxRecDepth 100000 in
set_option maxHeartbeats 1000000 in
theorem l3Atom_any (a : GA) (v : Value) (w : World) {S : Nat → Prop} (hv : TermsR S w v a.args) (hn : a.args.length ≤ 4194304) :
 Calls Tryz.prog 130 #[.agg #[.string a.n, v]] w fun e w' => (∃ v', e = .returned (.agg #[.string a.n, v']) ∧ TermsR (From w.heap.size) w' v' a.args) ∧ Ext w w' := by
 obtain ⟨A, c, rfl, hc1, hc2⟩ := SliceR.form hv
 obtain ⟨i0, hi0, hz0, hz1, hz2⟩ := info_parts term_info
 have HV := Lib.hid (hv.ext (((Ext.refl w).alloc (.cells #[.string a.n, .slice A a.args.length c] 54)).alloc (.cells #[.string ⟨#[]⟩, .slice none 0 0] 54)))
 have HB := Lib.hid (Blk.new w 54 #[.string a.n, .slice A a.args.length c])
 have HB2 := Lib.hid (Blk.new (w.alloc (.cells #[.string a.n, .slice A a.args.length c] 54)) 54 #[.string ⟨#[]⟩, .slice none 0 0])
 simp only [World.size_alloc] at HB2
 clear hv
 go_enter Tryz.func130, Tryz.ntmps130
 go_wp2
 go_region_held3 (fun w' => w'.cell? ⟨w.heap.size, 0, none⟩ = some (.string a.n) ∧ w'.cell? ⟨w.heap.size, 1, none⟩ = some (.slice A a.args.length c))
  (first | go_keep | exact ⟨hb1.cell 0, hb1.cell 1⟩)
  ((refine step_appK (k := kTerm) (S := None) (T := None) (base := w.heap.size + 2) (by rfl) (.tmp 5) (.tmp 7) 52 (by rfl) i0 _ 24 Tryz.underlying52 hi0 hz0 hz1 hz2 (by rfl) (by rfl) (by first | exact OwnK.empty (by simp) (by omega) | exact (OwnK.empty (by simp) (by omega)).drew) A a.args.length c (by rfl) (by first | exact (ListK.elems (k := kTerm) (S := S) HV.out).ext ((Ext.refl _).drew.alloc _) | exact (ListK.elems (k := kTerm) (S := S) HV.out).ext ((Ext.refl _).alloc _).drew) (fun _ h _ => h) (fun _ _ h => h) (maxOf (by simp; omega)) (by simp; omega) (by go_size) ?_; intro v1 w1 hap; obtain ⟨A1, c1, rfl, hd1, hd2⟩ := hap.own.form; have hb1 := (HB.out.ext (by repeat (first | exact Ext.refl _ | apply Ext.drew | apply Ext.alloc))).below hap.below (by omega); have hb2 := (HB2.out.ext (by repeat (first | exact Ext.refl _ | apply Ext.drew | apply Ext.alloc))).below hap.below (by omega); have q0 := hb2.cell 0; have q1 := hb2.cell 1; have f0 := hb2.frozen 0; have f1 := hb2.frozen 1; have hl := hb2.lt))
 go_wp2
 simp only [List.nil_append] at hap
 refine bodyPost_ret (v := .agg #[.string a.n, .slice A1 a.args.length c1]) (by simp [results, Tryz.results130, go_sem, q0, q1]) rfl ⟨⟨_, rfl, ?_⟩, ?_⟩
 · have h1 := hap.own.list (S' := From (w.heap.size + 2)) (fun _ h => h.elim) (fun _ h => h)
   exact TermsR.imp (S := From (w.heap.size + 2)) (w := w1) h1 (fromLe (by omega)) (((Agree.refl _ _).setCell (by simp) _).setCell (by simp) _) (by go_size)
 · exact Ext.setNew (a := w) (Ext.setNew (hap.toExt (by repeat (first | exact Ext.refl _ | apply Ext.drew | apply Ext.alloc)) (by omega)) (by simp) _) (by simp) _

/-- Facts that are not among others. -/
def lessA (xs ys : List GA) : List GA := xs.filter fun x => !hasA ys x
theorem lessA_take {xs ys : List GA} {k : Nat} {x : GA} (h : xs[k]? = some x) : lessA (xs.take (k + 1)) ys = lessA (xs.take k) ys ++ if hasA ys x = true then [] else [x] := by
 obtain ⟨hk, rfl⟩ := List.getElem?_eq_some_iff.1 h
 unfold lessA
 rw [List.take_succ_eq_append_getElem hk, List.filter_append]
 congr 1
 cases h : hasA ys xs[k] <;> simp [h]
theorem lessA_len (xs ys : List GA) : (lessA xs ys).length ≤ xs.length := List.length_filter_le _ _
theorem wTerms_len (l : List GT) : l.length ≤ wTerms l := Nat.le_add_right _ _
theorem wAtoms_len (l : List GA) : l.length ≤ wAtoms l := Nat.le_add_right _ _
theorem wAtom_args (a : GA) : a.args.length ≤ wAtom a := Nat.le_trans (wTerms_len _) (Nat.le_add_left _ _)

set_option maxRecDepth 100000 in
set_option maxHeartbeats 2000000 in
theorem l3Less_any (v u : Value) (xs ys : List GA) (w : World) {S T : Nat → Prop} (hv : AtomsR S w v xs) (hu : AtomsR T w u ys) (hn : wAtoms xs ≤ 4194304) :
 Calls Tryz.prog 151 #[v, u] w fun e w' => (∃ v', e = .returned v' ∧ AtomsR (From w.heap.size) w' v' (lessA xs ys) ∧ OwnK kAtom w.heap.size 54 (From w.heap.size) w' v' (lessA xs ys)) ∧ Ext w w' := by
 obtain ⟨A, c, rfl, hc1, hc2⟩ := SliceR.form hv
 obtain ⟨B, d, rfl, hd1, hd2⟩ := SliceR.form hu
 obtain ⟨i0, hi0, hz0, hz1, hz2⟩ := info_parts atom_info
 have HV := Lib.hid hv
 have HU := Lib.hid hu
 have HN := Lib.hid hn
 have hlen : xs.length ≤ 4194304 := Nat.le_trans (wAtoms_len _) hn
 clear hv hu hn
 go_enter Tryz.func151, Tryz.ntmps151
 go_wp2
 go_loopw [5, 6] (fun v i wr => ∃ k : Nat, k ≤ xs.length ∧ i = .int .i64 k ∧ Hid (OwnK kAtom w.heap.size 54 (From w.heap.size) wr v (lessA (xs.take k) ys)) ∧ Ext w wr) (fun _ i _ => xs.length - (intOf i).toNat)
 case atStart => exact ⟨0, Nat.zero_le _, rfl, OwnK.empty rfl (Nat.le_refl _), (Ext.refl _).alloc _⟩
 case round =>
  obtain ⟨k, hk, rfl, ho, hx⟩ := hrel
  obtain ⟨A0, c0, rfl, ha0, hb0⟩ := ho.out.form
  have hlk := lessA_len (xs.take k) ys
  rw [List.length_take, Nat.min_eq_left hk] at hlk
  have hsz := hx.size
  by_cases hlt : k < xs.length
  · obtain ⟨b, off, x, v1, rfl, hb, hxk, hxs, ht, hc0, hc1⟩ := AtomsR.at_ (HV.out.ext hx) hlt
    obtain ⟨A1, c1, rfl, ha1, hb1⟩ := SliceR.form ht
    have HX := Lib.hid (show x.args.length ≤ 4194304 from Nat.le_trans (Nat.le_trans (wAtom_args x) (wAtoms_mem (List.mem_of_getElem? hxk))) HN.out)
    have HT := Lib.hid ht
    cases hh : hasA ys x
    · have HK := Lib.hid (show lessA (xs.take (k + 1)) ys = lessA (xs.take k) ys ++ [x] from by rw [lessA_take hxk, hh]; rfl)
      have H2 := Lib.hid hh
      clear hxk hh ht
      go_wp2_with (first
       | (go_at_call 104; refine ((bool_ways (l3Has_any _ _ ys x _ (HU.out.ext hx) HT.out)).2 H2.out).mono ?_; rintro e w1 ⟨rfl, hx1⟩; obtain ⟨hcc, hcf⟩ := hx1.cells)
       | (go_at_call 130; refine (l3Atom_any x _ _ (HT.out.ext hx1) HX.out).mono ?_; rintro e w2 ⟨⟨v2, rfl, ht2⟩, hx2⟩; obtain ⟨A2, c2, rfl, ha2, hb2⟩ := SliceR.form ht2; have HT2 := Lib.hid ht2; clear ht2)
       | (at_builtin; refine wpList_appK (k := kAtom) (T := From w1.heap.size) rfl (.tmp 21) (.tmp 27) 30 (by rfl) i0 _ 40 Tryz.underlying30 hi0 hz0 hz1 hz2 (by rfl) (by rfl) ((ho.out.ext (hx1.trans' hx2)).ext ((Ext.refl _).alloc _)) _ 1 1 (by rfl) (ElemsK.one (k := kAtom) (x := x) (Blk.new _ _ _) ⟨_, rfl, hxs, HT2.out.ext ((Ext.refl _).alloc _)⟩) (fun _ hb _ => Nat.le_trans (hx.trans' hx1).size hb) (fun g hg hT => absurd (Nat.lt_of_lt_of_le (ho.out.at_ g hg).2 hx1.size) (Nat.not_lt.2 hT)) (maxOf (by omega)) (by omega) (Nat.le_trans ((hx.trans' hx1).trans' hx2).size (by go_size)) ?_; intro v3 w3 hap))
      go_roundw
      case rel => exact ⟨k + 1, by omega, by go_num, Lib.hid (by rw [HK.out]; exact hap.own), hap.toExt (((hx.trans' hx1).trans' hx2).alloc _) (Nat.le_refl _)⟩
      case measure => simp [intOf]; omega
    · have HK := Lib.hid (show lessA (xs.take (k + 1)) ys = lessA (xs.take k) ys from by rw [lessA_take hxk, hh]; simp)
      have H2 := Lib.hid hh
      clear hxk hh ht
      go_wp2_with (go_at_call 104; refine ((bool_ways (l3Has_any _ _ ys x _ (HU.out.ext hx) HT.out)).1 H2.out).mono ?_; rintro e w1 ⟨rfl, hx1⟩)
      go_roundw
      case rel => exact ⟨k + 1, by omega, by go_num, Lib.hid (by rw [HK.out]; exact ho.out.ext hx1), hx.trans' hx1⟩
      case measure => simp [intOf]; omega
  · have HK := Lib.hid (show xs.take k = xs from List.take_of_length_le (by omega))
    go_wp2
    go_ret
    have h1 := ho.out.list (S' := From w.heap.size) (fun _ h => h) (fun _ h => h)
    have h2 := ho.out
    rw [HK.out] at h1 h2
    exact ⟨⟨_, rfl, (by rw [HK.out]; exact h1), (by rw [HK.out]; exact h2)⟩, hx⟩

end Go.Proofs.YtmihponoillihaaGreatDoor
