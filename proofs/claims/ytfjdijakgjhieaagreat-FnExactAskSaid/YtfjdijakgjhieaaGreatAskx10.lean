/- Texts of the proof: ShelfB, AskQ, CompP, Bind, EvA, EvF, VarB. -/
import Derived.Shelf.Strings.Builder1
import Derived.Shelf.Small.Bits
import Derived.Shelf.Small.Strs
import Derived.Shelf.Strings.BuilderF
import Derived.Shelf.Strings.BuilderK
import Derived.Shelf.Strconv.Itoa0
import Derived.Shelf.Sort.Plain
import Derived.Shelf.Strings.BuilderCap
import Derived.Shelf.Slices.CompactS
import Derived.Shelf.Slices.Cells
import Derived.Shelf.Slices.In.SortNone
import Derived.Ground.SlsfProg
import Derived.Shelf.SlSortCmp.Insertion
import Derived.Shelf.SlSortCmp.ReverseRange1
import Derived.Test.YtfjdijakgjhieaaGreatProg
import Derived.Test.YtfjdijakgjhieaaGreatAskx08
import Derived.Test.YtfjdijakgjhieaaGreatAskx06
import Derived.Test.YtfjdijakgjhieaaGreatAskx09
import Derived.Lib.SlicesCompact
import Derived.Sort.Walk0
import Derived.Test.YtfjdijakgjhieaaGreatAskx02
import Derived.Test.YtfjdijakgjhieaaGreatAskx07
import Derived.Test.YtfjdijakgjhieaaGreatAskx04
import Derived.BigQuiet
import Derived.Deep.RegionHeld3
import Derived.Lib.RowBridge
namespace Go.Proofs
open Go.Shelf
def Tryz.lays190_ren : Go.Shelf.Ren := ⟨fun | 190 => 102 | 125 => 116 | 258 => 136 | 128 => 157 | 129 => 158 | 302 => 164 | 303 => 165 | 304 => 166 | 305 => 167 | 306 => 168 | 307 => 169 | 308 => 170 | 309 => 171 | 310 => 172 | 333 => 190 | 329 => 186 | 330 => 187 | 334 => 191 | 335 => 192 | 336 => 159 | 344 => 205 | n => n, fun | 31 => 56 | 9 => 9 | 3 => 3 | 46 => 155 | 0 => 0 | 51 => 201 | 53 => 203 | 4 => 4 | 183 => 195 | 182 => 194 | 131 => 101 | 5 => 5 | 218 => 226 | 222 => 230 | 228 => 246 | 229 => 247 | n => n, fun | n => n⟩
theorem Tryz.lays190 : Go.Proofs.Lays.n190 Tryz.prog Tryz.lays190_ren := {
  mixed := by kernel_rfl
  f125 := Tryz.func116.trans (congrArg some (by kernel_rfl))
  f128 := Tryz.func157.trans (congrArg some (by kernel_rfl))
  f129 := Tryz.func158.trans (congrArg some (by kernel_rfl))
  f190 := Tryz.func102.trans (congrArg some (by kernel_rfl))
  f258 := Tryz.func136.trans (congrArg some (by kernel_rfl))
  f302 := Tryz.func164.trans (congrArg some (by kernel_rfl))
  f303 := Tryz.func165.trans (congrArg some (by kernel_rfl))
  f304 := Tryz.func166.trans (congrArg some (by kernel_rfl))
  f305 := Tryz.func167.trans (congrArg some (by kernel_rfl))
  f306 := Tryz.func168.trans (congrArg some (by kernel_rfl))
  f307 := Tryz.func169.trans (congrArg some (by kernel_rfl))
  f308 := Tryz.func170.trans (congrArg some (by kernel_rfl))
  f309 := Tryz.func171.trans (congrArg some (by kernel_rfl))
  f310 := Tryz.func172.trans (congrArg some (by kernel_rfl))
  f329 := Tryz.func186.trans (congrArg some (by kernel_rfl))
  f330 := Tryz.func187.trans (congrArg some (by kernel_rfl))
  f333 := Tryz.func190.trans (congrArg some (by kernel_rfl))
  f334 := Tryz.func191.trans (congrArg some (by kernel_rfl))
  f335 := Tryz.func192.trans (congrArg some (by kernel_rfl))
  f336 := Tryz.func159.trans (congrArg some (by kernel_rfl))
  f344 := Tryz.func205.trans (congrArg some (by kernel_rfl))
  t0 := Tryz.underlying0
  a0 := Tryz.isAgg0
  z0 := Tryz.sizeOf0
  v0 := Tryz.zeroValue0
  t3 := Tryz.underlying3
  a3 := Tryz.isAgg3
  z3 := Tryz.sizeOf3
  v3 := Tryz.zeroValue3
  t4 := Tryz.underlying4
  a4 := Tryz.isAgg4
  z4 := Tryz.sizeOf4
  v4 := Tryz.zeroValue4
  t5 := Tryz.underlying5
  a5 := Tryz.isAgg5
  z5 := Tryz.sizeOf5
  v5 := Tryz.zeroValue5
  t9 := Tryz.underlying9
  a9 := Tryz.isAgg9
  z9 := Tryz.sizeOf9
  v9 := Tryz.zeroValue9
  t31 := Tryz.underlying56
  a31 := Tryz.isAgg56
  z31 := Tryz.sizeOf56
  v31 := Tryz.zeroValue56
  t46 := Tryz.underlying155
  a46 := Tryz.isAgg155
  z46 := Tryz.sizeOf155
  v46 := Tryz.zeroValue155
  t51 := Tryz.underlying201
  a51 := Tryz.isAgg201
  z51 := Tryz.sizeOf201
  v51 := Tryz.zeroValue201
  t53 := Tryz.underlying203
  a53 := Tryz.isAgg203
  z53 := Tryz.sizeOf203
  v53 := Tryz.zeroValue203
  t131 := Tryz.underlying101
  a131 := Tryz.isAgg101
  z131 := Tryz.sizeOf101
  v131 := Tryz.zeroValue101
  t182 := Tryz.underlying194
  a182 := Tryz.isAgg194
  z182 := Tryz.sizeOf194
  v182 := Tryz.zeroValue194
  t183 := Tryz.underlying195
  a183 := Tryz.isAgg195
  z183 := Tryz.sizeOf195
  v183 := Tryz.zeroValue195
  t218 := Tryz.underlying226
  a218 := Tryz.isAgg226
  z218 := Tryz.sizeOf226
  v218 := Tryz.zeroValue226
  t222 := Tryz.underlying230
  a222 := Tryz.isAgg230
  z222 := Tryz.sizeOf230
  v222 := Tryz.zeroValue230
  t228 := Tryz.underlying246
  a228 := Tryz.isAgg246
  z228 := Tryz.sizeOf246
  v228 := Tryz.zeroValue246
  t229 := Tryz.underlying247
  a229 := Tryz.isAgg247
  z229 := Tryz.sizeOf247
  v229 := Tryz.zeroValue247 }
open Go.Sort Go.RowKit in
theorem Tryz.slices_Sort_string (blk off cap : Nat) (ss : List (List UInt8)) (w : World) (hH : Holds encStr w blk off ss.toArray) (hblk : blk < w.heap.size) (hsz : ss.length < 4611686018427387904) :
    Calls Tryz.prog 102 #[.slice (some ⟨blk, off, none⟩) ss.length cap] w fun e w' =>
      e = .returned (.tuple #[]) ∧ ∃ n os, w' = grow (putRow encStr (Sort.ahead w n) blk off (ss.mergeSort fun x y => decide (x ≤ y)).toArray) os := Any.slices_Sort_string Tryz.lays190 blk off cap ss w hH hblk hsz
def Tryz.lays194_ren : Go.Shelf.Ren := ⟨fun | 194 => 103 | n => n, fun | 31 => 56 | 9 => 9 | 3 => 3 | 4 => 4 | 0 => 0 | n => n, fun | n => n⟩
theorem Tryz.lays194 : Go.Proofs.Lays.n194 Tryz.prog Tryz.lays194_ren := {
  mixed := by kernel_rfl
  f194 := Tryz.func103.trans (congrArg some (by kernel_rfl))
  t0 := Tryz.underlying0
  a0 := Tryz.isAgg0
  z0 := Tryz.sizeOf0
  v0 := Tryz.zeroValue0
  t3 := Tryz.underlying3
  a3 := Tryz.isAgg3
  z3 := Tryz.sizeOf3
  v3 := Tryz.zeroValue3
  t4 := Tryz.underlying4
  a4 := Tryz.isAgg4
  z4 := Tryz.sizeOf4
  v4 := Tryz.zeroValue4
  t9 := Tryz.underlying9
  a9 := Tryz.isAgg9
  z9 := Tryz.sizeOf9
  v9 := Tryz.zeroValue9
  t31 := Tryz.underlying56
  a31 := Tryz.isAgg56
  z31 := Tryz.sizeOf56
  v31 := Tryz.zeroValue56 }
open Go.RowKit Go.Lib Go.Sort in
/-- slices.Compact at []string, over an array: the library's two loops are walked. (LAID: no walk: one application.) -/
theorem Tryz.slices_Compact_string_arr (blk off cap : Nat) (d : Array (List UInt8)) (w : World) (hH : Holds encStr w blk off d) (hsz : d.size ≤ 9223372036854775807) (hcap : d.size ≤ cap) :
    Calls Tryz.prog 103 #[.slice (some ⟨blk, off, none⟩) d.size cap] w fun e w' => e = .returned (.slice (some ⟨blk, off, none⟩) (compactUpTo d d.size).length cap) ∧ ∃ q, w' = putRow encStr (Sort.ahead w q) blk off (compactUpTo d d.size ++ List.replicate (d.size - (compactUpTo d d.size).length) []).toArray := Any.slices_Compact_string_arr Tryz.lays194 blk off cap d w hH hsz hcap
open Go.RowKit Go.Lib Go.Sort in
/-- slices.Compact at []string: "Compact replaces consecutive runs of equal elements with a single copy. This is like the uniq command found on Unix. Compact modifies the contents of the slice s and returns the modified slice, which may have a smaller length. Compact zeroes the elements between the new length and the original length. The result preserves the nilness of s.": IT RETURNS THE SLICE CUT TO 'Lib.compact zs'; ITS CELLS HOLD 'Lib.compact zs', THEN ZERO VALUES up to the old length; all else is as it was, but for the count of draws. IN THE WORDS OF slices.Sort's CONTRACT ('Holds', 'putRow'): so the everyday 'slices.Sort(xs); xs = slices.Compact(xs)' goes from the one contract to the other. It asks 'zs.length ≤ cap' (every slice's: the reslicing 's[:k]' looks at it). Length 0, nil: '.._empty'. (LAID: no walk: one application.) -/
theorem Tryz.slices_Compact_string (blk off cap : Nat) (zs : List (List UInt8)) (w : World) (hH : Holds encStr w blk off zs.toArray) (hsz : zs.length ≤ 9223372036854775807) (hcap : zs.length ≤ cap) :
    Calls Tryz.prog 103 #[.slice (some ⟨blk, off, none⟩) zs.length cap] w fun e w' => e = .returned (.slice (some ⟨blk, off, none⟩) (Lib.compact zs).length cap) ∧ ∃ q, w' = putRow encStr (Sort.ahead w q) blk off (Lib.compact zs ++ List.replicate (zs.length - (Lib.compact zs).length) []).toArray := Any.slices_Compact_string Tryz.lays194 blk off cap zs w hH hsz hcap
open Go.RowKit Go.Lib Go.Sort in
/-- The same at a slice of length 0, a nil one too: it comes back as it is. (LAID: no walk: one application.) -/
theorem Tryz.slices_Compact_string_empty (a : Option Addr) (cap : Nat) (w : World) :
    Calls Tryz.prog 103 #[.slice a 0 cap] w fun e w' => e = .returned (.slice a 0 cap) ∧ w' = w := Any.slices_Compact_string_empty Tryz.lays194 a cap w
open Go.RowKit Go.Lib Go.Sort in
/-- slices.Compact at []string, of an argument. (LAID: no walk: one application.) -/
theorem Tryz.slices_Compact_string_cells (b off n c : Nat) (Sx : Nat → ByteArray) (w : World) (hbig : n ≤ 9223372036854775807) (hcap : n ≤ c) (hc : ∀ i, i < n → w.cell? ⟨b, off + i, none⟩ = some (.string (Sx i))) (hf : ∀ j, j < n → w.frozen? ⟨b, off + j, none⟩ = false) :
    Calls Tryz.prog 103 #[.slice (some ⟨b, off, none⟩) n c] w fun e w' => e = .returned (.slice (some ⟨b, off, none⟩) (Lib.compact (Lib.strsOf Sx n)).length c) ∧ ∃ q, w' = (w.drewN q).setCells b off ((Lib.compact (Lib.strsOf Sx n) ++ List.replicate (n - (Lib.compact (Lib.strsOf Sx n)).length) []).map encStr) := Any.slices_Compact_string_cells Tryz.lays194 b off n c Sx w hbig hcap hc hf
open Go.RowKit Go.Sort in
/-- .. and plain. (LAID: no walk: one application.) -/
theorem Tryz.slices_Sort_string_none (p : Option Addr) (cap : Nat) (w : World) :
    Calls Tryz.prog 102 #[.slice p 0 cap] w fun e w' => e = .returned (.tuple #[]) ∧ w' = w := Any.slices_Sort_string_none Tryz.lays190 p cap w
end Go.Proofs

namespace Go.Proofs.YtfjdijakgjhieaaGreat
set_option linter.unusedSimpArgs false
set_option linter.unusedVariables false
open Go.RowKit

/-- All variables of a body, ascending. -/
def varsN (body : List GP) : List ByteArray := body.foldl (fun o p => varsPut o p.atom) []
theorem varsN_asc (body : List GP) : AscS (varsN body) := (all_fold body [] List.Pairwise.nil).1
theorem varsN_mem {body : List GP} {x : ByteArray} : x ∈ varsN body ↔ ∃ p ∈ body, x ∈ varsOf p.atom := by
  unfold varsN
  rw [(all_fold body [] List.Pairwise.nil).2]
  simp
def bodyTight (body : List GP) : Bool := body.all fun p => (varsOf p.atom).all (boundIn body)
def askOkB (body : List GP) : Bool := decide (1 ≤ body.length ∧ body.length ≤ 4) && (body.all fun p => atomOkB p.atom) && bodyTight body
theorem varsOf_mem {a : GA} {x : ByteArray} : x ∈ varsOf a ↔ ∃ t ∈ a.args, t.v = true ∧ t.n = x := by
  unfold varsOf
  simp only [List.mem_map, List.mem_filter]
  constructor
  · rintro ⟨t, ⟨h1, h2⟩, h3⟩; exact ⟨t, h1, h2, h3⟩
  · rintro ⟨t, h1, h2, h3⟩; exact ⟨t, ⟨h1, h2⟩, h3⟩
theorem nameOk_word {s : ByteArray} (h : nameOkB s = true) : isNo s = false := by
  unfold nameOkB lettersB inB at h
  simp only [Bool.and_eq_true, decide_eq_true_eq] at h
  unfold isNo
  refine decide_eq_false fun e => ?_
  have := h.1.2.1
  rw [e] at this
  omega
theorem varOk_word {s : ByteArray} (h : varOkB s = true) : isNo s = false := by
  unfold varOkB at h
  simp only [Bool.and_eq_true] at h
  unfold isNo
  refine decide_eq_false fun e => ?_
  have h1 := h.1.1
  unfold capB at h1
  have : s.data.toList = [] := List.eq_nil_of_length_eq_zero (by simpa using e)
  rw [this] at h1
  cases h1
theorem termOk_word {t : GT} (h : termOkB t = true) : isNo t.n = false := by
  unfold termOkB at h
  split at h
  · exact varOk_word h
  · exact nameOk_word h
theorem atomOk_word {a : GA} (h : atomOkB a = true) : ∀ t ∈ a.args, isNo t.n = false := fun t ht => by
  unfold atomOkB at h
  simp only [Bool.and_eq_true] at h
  exact termOk_word (List.all_eq_true.1 h.2 t ht)
theorem fact_ok {a : GA} (h : factB a = true) : okFact a := fun t ht => by
  unfold factB at h
  simp only [Bool.and_eq_true] at h
  have h2 := List.all_eq_true.1 h.2 t ht
  exact ⟨by simpa using h2, atomOk_word h.1 t ht⟩
theorem facts_ok {l : List GA} {n : Nat} (h : factsB l n = true) : ∀ a ∈ l, okFact a := fun a ha => by
  unfold factsB at h
  simp only [Bool.and_eq_true] at h
  exact fact_ok (List.all_eq_true.1 h.1.1 a ha)
theorem flat_small {body : List GP} (h : ∀ p ∈ body, p.atom.args.length ≤ 3) : (body.flatMap fun p => varsOf p.atom).length ≤ 3 * body.length := by
  induction body with
  | nil => simp
  | cons p body ih =>
    have h1 := ih (fun q hq => h q (List.mem_cons_of_mem _ hq))
    have h2 := h p (by simp)
    have h3 : (varsOf p.atom).length ≤ p.atom.args.length := by
      unfold varsOf
      rw [List.length_map]
      exact List.length_filter_le _ _
    rw [List.flatMap_cons, List.length_append, List.length_cons]
    omega
theorem askOk_parts {body : List GP} (h : askOkB body = true) : 1 ≤ body.length ∧ body.length ≤ 4 ∧ (∀ p ∈ body, atomOkB p.atom = true) ∧ bodyTight body = true := by
  unfold askOkB at h
  simp only [Bool.and_eq_true, decide_eq_true_eq] at h
  exact ⟨h.1.1.1, h.1.1.2, List.all_eq_true.1 h.1.2, h.2⟩
theorem atomOk_few {a : GA} (h : atomOkB a = true) : a.args.length ≤ 3 := by
  unfold atomOkB at h
  simp only [Bool.and_eq_true, decide_eq_true_eq] at h
  exact h.1.2
theorem varsN_few {body : List GP} (h : ∀ p ∈ body, p.atom.args.length ≤ 3) (hb : body.length ≤ 4) : (varsN body).length ≤ 12 := by
  have h1 := nodup_len (varsN body) (body.flatMap fun p => varsOf p.atom) (varsN_asc body).nodup (fun x hx => by
    obtain ⟨p, hp, hx⟩ := varsN_mem.1 hx
    exact List.mem_flatMap.2 ⟨p, hp, hx⟩)
  have h2 := flat_small h
  omega
theorem askable {body : List GP} (h : askOkB body = true) : Askable body (varsN body) := by
  obtain ⟨h1, h2, h3, h4⟩ := askOk_parts h
  refine ⟨(varsN_asc body).nodup, varsN_few (fun p hp => atomOk_few (h3 p hp)) h2, fun p hp t ht hv => varsN_mem.2 ⟨p, hp, varsOf_mem.2 ⟨t, ht, hv, rfl⟩⟩, fun x hx => ?_, fun p hp t ht _ => atomOk_word (h3 p hp) t ht⟩
  obtain ⟨p, hp, hx⟩ := varsN_mem.1 hx
  unfold bodyTight at h4
  have h5 := List.all_eq_true.1 (List.all_eq_true.1 h4 p hp) x hx
  unfold boundIn at h5
  obtain ⟨q, hq, h6⟩ := List.any_eq_true.1 h5
  simp only [Bool.and_eq_true, Bool.not_eq_true'] at h6
  obtain ⟨t, ht, hv, hn⟩ := varsOf_mem.1 (memS_iff.1 h6.2)
  exact ⟨q, hq, h6.1, t, ht, hv, hn⟩

end Go.Proofs.YtfjdijakgjhieaaGreat

namespace Go.Proofs.YtfjdijakgjhieaaGreat
set_option linter.unusedSimpArgs false
set_option linter.unusedVariables false
open Go.RowKit

/-- Variables of terms, as they come. -/
def termVars (ts : List GT) : List ByteArray := (ts.filter (·.v)).map (·.n)
def flatVars (ps : List GP) : List ByteArray := ps.flatMap fun p => termVars p.atom.args
theorem flatVars_mem {ps : List GP} {x : ByteArray} : x ∈ flatVars ps ↔ x ∈ varsN ps := by
  rw [varsN_mem]
  unfold flatVars
  rw [List.mem_flatMap]
  exact Iff.rfl

theorem lt_word (x y : List UInt8) : x < y ↔ ltS (strOf x) (strOf y) = true := by
  rw [← ltS_less, bytesLess_eq, decide_eq_true_iff, ByteArray.toList_eq, ByteArray.toList_eq]
  exact Iff.rfl
theorem le_word (x y : List UInt8) : x ≤ y ↔ ltS (strOf y) (strOf x) = false := by
  rw [← Bool.not_eq_true, ← lt_word]
  exact Iff.rfl
theorem strOf_inj {x y : List UInt8} (h : strOf x = strOf y) : x = y := by
  have := congrArg (fun b : ByteArray => b.data.toList) h
  simpa [strOf] using this
theorem lt_of_le_ne {x y : List UInt8} (h : x ≤ y) (hn : x ≠ y) : x < y := by
  rw [lt_word]
  exact ltS_other ((le_word x y).1 h) (fun e => hn (strOf_inj e).symm)
theorem le_trans_word {x y z : List UInt8} (h : x ≤ y) (k : y ≤ z) : x ≤ z := by
  rw [le_word]
  cases hh : ltS (strOf z) (strOf x) with
  | false => rfl
  | true =>
    by_cases e : y = z
    · subst e; rw [le_word] at h; rw [h] at hh; cases hh
    · have h1 := (lt_word _ _).1 (lt_of_le_ne k e)
      have h2 := ltS_trans h1 hh
      rw [le_word] at h; rw [h] at h2; cases h2
theorem le_total_word (x y : List UInt8) : x ≤ y ∨ y ≤ x := by
  rw [le_word, le_word]
  cases h1 : ltS (strOf y) (strOf x) with
  | false => exact .inl rfl
  | true =>
    refine .inr ?_
    cases h2 : ltS (strOf x) (strOf y) with
    | false => rfl
    | true => have := ltS_trans h1 h2; rw [ltS_irr] at this; cases this

theorem comp_is {d : Array (List UInt8)} (hs : ∀ i j, i ≤ j → j < d.size → d[i]! ≤ d[j]!) : ∀ m, m ≤ d.size → (∀ x, x ∈ Lib.compactUpTo d m ↔ ∃ j, j < m ∧ d[j]! = x) ∧ (Lib.compactUpTo d m).Pairwise (· < ·)
  | 0, _ => ⟨fun x => ⟨fun h => by simp [Lib.compactUpTo] at h, fun ⟨j, h, _⟩ => absurd h (Nat.not_lt_zero _)⟩, by simp [Lib.compactUpTo]⟩
  | m + 1, hm => by
    obtain ⟨h1, h2⟩ := comp_is hs m (by omega)
    rw [Lib.compactUpTo_succ]
    by_cases hk : Lib.keeps d m = true
    · rw [if_pos hk]
      refine ⟨fun x => ?_, ?_⟩
      · rw [List.mem_append, h1, List.mem_singleton]
        constructor
        · rintro (⟨j, hj, rfl⟩ | rfl)
          · exact ⟨j, by omega, rfl⟩
          · exact ⟨m, by omega, rfl⟩
        · rintro ⟨j, hj, rfl⟩
          by_cases e : j = m
          · subst e; exact .inr rfl
          · exact .inl ⟨j, by omega, rfl⟩
      · refine List.pairwise_append.2 ⟨h2, List.pairwise_singleton _ _, fun a ha b hb => ?_⟩
        obtain ⟨j, hj, rfl⟩ := (h1 a).1 ha
        rw [List.mem_singleton] at hb; subst hb
        have hne : d[m]! ≠ d[m - 1]! := by
          unfold Lib.keeps at hk
          rcases of_decide_eq_true hk with h0 | h0
          · omega
          · exact h0
        have a1 := hs j (m - 1) (by omega) (by omega)
        have a2 := lt_of_le_ne (hs (m - 1) m (by omega) (by omega)) (fun e => hne e.symm)
        by_cases e : d[j]! = d[m - 1]!
        · rw [e]; exact a2
        · exact (lt_word _ _).2 (ltS_trans ((lt_word _ _).1 (lt_of_le_ne a1 e)) ((lt_word _ _).1 a2))
    · have hk' : Lib.keeps d m = false := by simpa using hk
      rw [if_neg hk, List.append_nil]
      refine ⟨fun x => ?_, h2⟩
      rw [h1]
      constructor
      · rintro ⟨j, hj, rfl⟩; exact ⟨j, by omega, rfl⟩
      · rintro ⟨j, hj, rfl⟩
        by_cases e : j = m
        · subst e
          unfold Lib.keeps at hk'
          have h0 := of_decide_eq_false hk'
          have h3 : j ≠ 0 := fun e => h0 (.inl e)
          have h4 : d[j]! = d[j - 1]! := Classical.byContradiction fun e => h0 (.inr e)
          exact ⟨j - 1, by omega, h4.symm⟩
        · exact ⟨j, by omega, rfl⟩

def sortW (zs : List (List UInt8)) : List (List UInt8) := zs.mergeSort fun x y => decide (x ≤ y)
theorem sortW_sorted (zs : List (List UInt8)) : (sortW zs).Pairwise fun x y => x ≤ y := by
  have h := List.pairwise_mergeSort (le := fun x y : List UInt8 => decide (x ≤ y)) (fun a b c h1 h2 => decide_eq_true (le_trans_word (of_decide_eq_true h1) (of_decide_eq_true h2)))
    (fun a b => by rcases le_total_word a b with h | h <;> simp [h]) zs
  exact h.imp fun h => of_decide_eq_true h
theorem compact_sorted (zs : List (List UInt8)) : (∀ x, x ∈ Lib.compact (sortW zs) ↔ x ∈ zs) ∧ (Lib.compact (sortW zs)).Pairwise (· < ·) := by
  have hs : ∀ i j, i ≤ j → j < (sortW zs).toArray.size → (sortW zs).toArray[i]! ≤ (sortW zs).toArray[j]! := by
    intro i j hij hj
    have hj' : j < (sortW zs).length := by simpa using hj
    have hi' : i < (sortW zs).length := by omega
    have e1 : (sortW zs).toArray[i]! = (sortW zs)[i] := by simp [getElem!_pos, hi']
    have e2 : (sortW zs).toArray[j]! = (sortW zs)[j] := by simp [getElem!_pos, hj']
    rw [e1, e2]
    by_cases e : i = j
    · subst e; rw [le_word]; exact ltS_irr _
    · exact List.pairwise_iff_getElem.1 (sortW_sorted zs) i j hi' hj' (by omega)
  obtain ⟨h1, h2⟩ := comp_is hs (sortW zs).length (by simp)
  refine ⟨fun x => ?_, h2⟩
  have h3 : x ∈ Lib.compact (sortW zs) ↔ _ := h1 x
  have hp : x ∈ sortW zs ↔ x ∈ zs := (List.mergeSort_perm zs fun x y => decide (x ≤ y)).mem_iff
  rw [h3, ← hp]
  have e : ∀ j (hj : j < (sortW zs).length), (sortW zs).toArray[j]! = (sortW zs)[j] := fun j hj => by simp [getElem!_pos, hj]
  constructor
  · rintro ⟨j, hj, rfl⟩
    rw [e j hj]; exact List.getElem_mem hj
  · intro hx
    obtain ⟨j, hj, rfl⟩ := List.getElem_of_mem hx
    exact ⟨j, hj, e j hj⟩
theorem compact_vars (ps : List GP) : (Lib.compact (sortW ((flatVars ps).map fun s => s.data.toList))).map strOf = varsN ps := by
  obtain ⟨h1, h2⟩ := compact_sorted ((flatVars ps).map fun s => s.data.toList)
  refine asc_ext cmpS_total ?_ ((varsN_asc ps).imp fun h => of_decide_eq_true h) (fun x => ?_)
  · refine List.pairwise_map.2 (h2.imp fun {a b} h => ?_)
    exact of_decide_eq_true ((lt_word a b).1 h)
  · rw [List.mem_map, ← flatVars_mem]
    constructor
    · rintro ⟨y, hy, rfl⟩
      obtain ⟨s, hs, rfl⟩ := List.mem_map.1 ((h1 y).1 hy)
      exact hs
    · intro hx
      exact ⟨x.data.toList, (h1 _).2 (List.mem_map.2 ⟨x, hx, rfl⟩), rfl⟩

end Go.Proofs.YtfjdijakgjhieaaGreat

namespace Go.Proofs.YtfjdijakgjhieaaGreat
set_option linter.unusedSimpArgs false
set_option linter.unusedVariables false
open Go.RowKit

theorem StrsR.impL {S S' : Nat → Prop} {w w' : World} {v : Value} {xs : List ByteArray} (h : StrsR S w v xs) (hS : ∀ b, S b → b < w.heap.size → S' b) (he : Agree S w w') (hsz : w.heap.size ≤ w'.heap.size) : StrsR S' w' v xs := ListK.imp (k := kStr) h hS he hsz
theorem StrsR.sub {S S' : Nat → Prop} {w : World} {v : Value} {xs : List ByteArray} (h : StrsR S w v xs) (hS : ∀ b, S b → S' b) : StrsR S' w v xs := h.impL (fun b hb _ => hS b hb) (.refl _ _) (Nat.le_refl _)
theorem StrsR.low {S : Nat → Prop} {w : World} {v : Value} {xs : List ByteArray} (h : StrsR S w v xs) : StrsR (fun b => S b ∧ b < w.heap.size) w v xs := ListK.low (k := kStr) h

/-- A binding: two slices of words. -/
def BindE (S : Nat → Prop) (w : World) (cs : List Value) (b : LB) : Prop := ∃ v u, cs = [v, u] ∧ StrsR S w v b.ns ∧ StrsR S w u b.vs ∧ b.ok
def kBind : Kind LB := ⟨2, BindE, by decide, fun h hS he hsz => by obtain ⟨v, u, h1, h2, h3, h4⟩ := h; exact ⟨v, u, h1, h2.impL hS he hsz, h3.impL hS he hsz, h4⟩,
  fun {_ _ l x} h => by obtain ⟨v, u, rfl, ht, hp, _⟩ := h; intro y hy; simp at hy; rcases hy with rfl | rfl <;> first | exact ListK.one (k := kStr) ht | exact ListK.one (k := kStr) hp, fun h => by obtain ⟨v, u, rfl, _⟩ := h; rfl⟩
def BindsR (S : Nat → Prop) : World → Value → List LB → Prop := SliceR S 2 (BindE S)
theorem BindsR.impL {S S' : Nat → Prop} {w w' : World} {v : Value} {xs : List LB} (h : BindsR S w v xs) (hS : ∀ b, S b → b < w.heap.size → S' b) (he : Agree S w w') (hsz : w.heap.size ≤ w'.heap.size) : BindsR S' w' v xs := ListK.imp (k := kBind) h hS he hsz
theorem BindsR.ext {S : Nat → Prop} {w w' : World} {v : Value} {xs : List LB} (h : BindsR S w v xs) (he : Ext w w') : BindsR S w' v xs := h.impL (fun _ h _ => h) (.of_ext he) he.size
theorem BindsR.at_ {S : Nat → Prop} {w : World} {A : Option Addr} {n c : Nat} {xs : List LB} (h : BindsR S w (.slice A n c) xs) {k : Nat} (hk : k < n) :
    ∃ (b off : Nat) (x : LB) (v u : Value), A = some ⟨b, off, none⟩ ∧ b < w.heap.size ∧ xs[k]? = some x ∧ StrsR S w v x.ns ∧ StrsR S w u x.vs ∧ x.ok ∧
      w.cell? ⟨b, off + k * 2, none⟩ = some v ∧ w.cell? ⟨b, off + k * 2 + 1, none⟩ = some u := by
  obtain ⟨b, off, x, cs, hA, hb, hx, _, hc, v, u, rfl, ht, hp, ho⟩ := SliceR.at_ h hk
  exact ⟨b, off, x, v, u, hA, hb, hx, ht, hp, ho, hc 0 _ rfl, hc 1 _ rfl⟩
/-- A binding as a value. -/
def BindR (S : Nat → Prop) (w : World) (v : Value) (b : LB) : Prop := ∃ x y : Value, v = .agg #[x, y] ∧ StrsR S w x b.ns ∧ StrsR S w y b.vs ∧ b.ok
theorem BindR.ext {S : Nat → Prop} {w w' : World} {v : Value} {b : LB} (h : BindR S w v b) (he : Ext w w') : BindR S w' v b := by
  obtain ⟨x, y, h1, h2, h3, h4⟩ := h; exact ⟨x, y, h1, h2.ext he, h3.ext he, h4⟩
theorem BindR.sub {S S' : Nat → Prop} {w : World} {v : Value} {b : LB} (h : BindR S w v b) (hS : ∀ i, S i → S' i) : BindR S' w v b := by
  obtain ⟨x, y, h1, h2, h3, h4⟩ := h; exact ⟨x, y, h1, h2.sub hS, h3.sub hS, h4⟩
theorem BindR.form {S : Nat → Prop} {w : World} {v : Value} {b : LB} (h : BindR S w v b) : ∃ A c B d, v = .agg #[.slice A b.ns.length c, .slice B b.vs.length d] := by
  obtain ⟨x, y, rfl, h2, h3, _⟩ := h
  obtain ⟨A, c, rfl, _⟩ := SliceR.form h2
  obtain ⟨B, d, rfl, _⟩ := SliceR.form h3
  exact ⟨_, _, _, _, rfl⟩

/-- A row: one slice of words. -/
def RowE (S : Nat → Prop) (w : World) (cs : List Value) (r : List ByteArray) : Prop := ∃ v, cs = [v] ∧ StrsR S w v r
def kRow : Kind (List ByteArray) := ⟨1, RowE, by decide, fun h hS he hsz => by obtain ⟨v, h1, h2⟩ := h; exact ⟨v, h1, h2.impL hS he hsz⟩,
  fun {_ _ l x} h => by obtain ⟨v, rfl, ht⟩ := h; intro y hy; simp at hy; subst hy; exact ListK.one (k := kStr) ht, fun h => by obtain ⟨v, rfl, _⟩ := h; rfl⟩
def RowsR (S : Nat → Prop) : World → Value → List (List ByteArray) → Prop := SliceR S 1 (RowE S)
theorem RowsR.impL {S S' : Nat → Prop} {w w' : World} {v : Value} {xs : List (List ByteArray)} (h : RowsR S w v xs) (hS : ∀ b, S b → b < w.heap.size → S' b) (he : Agree S w w') (hsz : w.heap.size ≤ w'.heap.size) : RowsR S' w' v xs := ListK.imp (k := kRow) h hS he hsz
theorem RowsR.ext {S : Nat → Prop} {w w' : World} {v : Value} {xs : List (List ByteArray)} (h : RowsR S w v xs) (he : Ext w w') : RowsR S w' v xs := h.impL (fun _ h _ => h) (.of_ext he) he.size
theorem RowsR.sub {S S' : Nat → Prop} {w : World} {v : Value} {xs : List (List ByteArray)} (h : RowsR S w v xs) (hS : ∀ b, S b → S' b) : RowsR S' w v xs := h.impL (fun b hb _ => hS b hb) (.refl _ _) (Nat.le_refl _)
theorem RowsR.at_ {S : Nat → Prop} {w : World} {A : Option Addr} {n c : Nat} {xs : List (List ByteArray)} (h : RowsR S w (.slice A n c) xs) {k : Nat} (hk : k < n) :
    ∃ (b off : Nat) (x : List ByteArray) (v : Value), A = some ⟨b, off, none⟩ ∧ b < w.heap.size ∧ xs[k]? = some x ∧ StrsR S w v x ∧ w.cell? ⟨b, off + k, none⟩ = some v := by
  obtain ⟨b, off, x, cs, hA, hb, hx, _, hc, v, rfl, ht⟩ := SliceR.at_ h hk
  exact ⟨b, off, x, v, hA, hb, hx, ht, by simpa using hc 0 _ rfl⟩

end Go.Proofs.YtfjdijakgjhieaaGreat

namespace Go.Proofs.YtfjdijakgjhieaaGreat
set_option linter.unusedSimpArgs false
set_option linter.unusedVariables false
open Go.RowKit

theorem idx_first : ∀ {ns : List ByteArray} {k : Nat} {x : ByteArray}, ns[k]? = some x → (∀ i y, i < k → ns[i]? = some y → y ≠ x) → idxB ns x = some k
  | y :: l, 0, x, h, _ => by
    have : y = x := by simpa using h
    unfold idxB; rw [if_pos this]
  | y :: l, k + 1, x, h, hl => by
    have hx : l[k]? = some x := by simpa using h
    have hne : ¬ y = x := hl 0 y (Nat.succ_pos _) rfl
    unfold idxB
    rw [if_neg hne, idx_first hx (fun i z hi hz => hl (i + 1) z (by omega) (by simpa using hz))]; rfl
theorem idx_never {ns : List ByteArray} {x : ByteArray} (h : ∀ i y, i < ns.length → ns[i]? = some y → y ≠ x) : idxB ns x = none := by
  cases hi : idxB ns x with
  | none => rfl
  | some i => exact absurd rfl (h i x (idxB_lt hi) (idxB_some hi))

set_option maxRecDepth 100000 in
set_option maxHeartbeats 1000000 in
theorem bindGet_any (b : LB) (v u : Value) (x : ByteArray) (w : World) {S T : Nat → Prop} (hv : StrsR S w v b.ns) (hu : StrsR T w u b.vs) (hok : b.ok) :
    Calls Tryz.prog 89 #[.agg #[v, u], .string x] w fun e w' => e = .returned (.tuple #[.string ((b.get x).getD emptyB), .bool (b.get x).isSome]) ∧ Ext w w' := by
  obtain ⟨A, c, rfl, hc1, hc2⟩ := SliceR.form hv
  obtain ⟨B, d, rfl, hd1, hd2⟩ := SliceR.form hu
  have hx0 := (Ext.refl w).alloc (.cells #[.slice A b.ns.length c, .slice B b.vs.length d] 113)
  have HV := Lib.hid (hv.ext hx0)
  have HU := Lib.hid (hu.ext hx0)
  have HB := Lib.hid (Blk.new w 113 #[.slice A b.ns.length c, .slice B b.vs.length d])
  have HX0 := Lib.hid hx0
  have HOK := Lib.hid hok
  clear hv hu hx0 hok
  go_enter Tryz.func89, Tryz.ntmps89
  go_wp2
  go_loopw [6] (fun i wr => ∃ k : Nat, k ≤ b.ns.length ∧ i = .int .i64 k ∧ Hid (∀ i y, i < k → b.ns[i]? = some y → y ≠ x) ∧ Ext (w.alloc (.cells #[.slice A b.ns.length c, .slice B b.vs.length d] 113)) wr) (fun i _ => b.ns.length - (intOf i).toNat)
  case atStart => exact ⟨0, Nat.zero_le _, rfl, Lib.hid (fun i y h => absurd h (Nat.not_lt_zero _)), Ext.refl _⟩
  case round =>
    obtain ⟨k, hk, rfl, hp, hx⟩ := hrel
    have hk0 : (0 : Int) ≤ (k : Int) := by omega
    have hb1 := HB.out.ext hx
    have q0 := hb1.cell 0
    have q1 := hb1.cell 1
    have hl := hb1.lt
    clear hb1
    by_cases hlt : k < b.ns.length
    · have hk1 : (k : Int) < (b.ns.length : Int) := by omega
      have hk3 : k < b.vs.length := by have h := HOK.out; unfold LB.ok at h; omega
      have hk2 : (k : Int) < (b.vs.length : Int) := by omega
      obtain ⟨bb, off, y, rfl, hbb, hyk, hys, hc⟩ := StrsR.at_ (HV.out.ext hx) hlt
      obtain ⟨bc, off2, z, rfl, hbc, hzk, hzs, hc2'⟩ := StrsR.at_ (HU.out.ext hx) (k := k) hk3
      by_cases hyx : y = x
      · subst hyx
        have h3 : (y.toList == y.toList) = true := beq_self_eq_true _
        have HG := Lib.hid (show b.get y = some z from by unfold LB.get; rw [idx_first hyk hp.out]; exact hzk)
        clear hyk hzk hp
        go_wp2
        go_ret2
        rw [HG.out]
        exact ⟨rfl, HX0.out.trans' hx⟩
      · have h3 : (y.toList == x.toList) = false := str_ne' hyx
        have HP := Lib.hid (show ∀ i u, i < k + 1 → b.ns[i]? = some u → u ≠ x from fun i u hi hu => by
          rcases Nat.lt_or_ge i k with h | h
          · exact hp.out i u h hu
          · have e : i = k := by omega
            subst e
            rw [hyk] at hu; injection hu with hu
            exact fun e => hyx (hu.trans e))
        clear hyk hzk hp hyx
        go_wp2
        go_roundw
        case rel => exact ⟨k + 1, by omega, by go_num, HP, hx⟩
        case measure => simp [intOf]; omega
    · have HG := Lib.hid (show b.get x = none from by
        unfold LB.get
        rw [idx_never (fun i y hi hy => hp.out i y (by omega) hy)])
      clear hp
      go_wp2
      go_ret2
      rw [HG.out]
      exact ⟨rfl, HX0.out.trans' hx⟩

end Go.Proofs.YtfjdijakgjhieaaGreat

namespace Go.Proofs.YtfjdijakgjhieaaGreat
set_option linter.unusedSimpArgs false
set_option linter.unusedVariables false
open Go.RowKit

theorem strs_small {S : Nat → Prop} {w : World} {v : Value} {xs : List ByteArray} (h : StrsR S w v xs) : ∀ s ∈ xs, s.size ≤ maxLen := fun s hs => by
  obtain ⟨A, c, rfl, _⟩ := SliceR.form h
  obtain ⟨i, hi⟩ := List.getElem?_of_mem hs
  obtain ⟨b, off, x, _, _, hx, hsz, _⟩ := StrsR.at_ h (k := i) (List.getElem?_eq_some_iff.1 hi).1
  rw [hi] at hx; injection hx with hx
  rw [hx]; exact hsz
theorem get_small {b : LB} (h : ∀ s ∈ b.vs, s.size ≤ maxLen) (x : ByteArray) : ((b.get x).getD emptyB).size ≤ maxLen := by
  cases hg : b.get x with
  | none => exact Nat.zero_le _
  | some u =>
    unfold LB.get at hg
    split at hg
    · exact h u (List.mem_of_getElem? hg)
    · cases hg
theorem fill_small {b : LB} (h : ∀ s ∈ b.vs, s.size ≤ maxLen) {t : GT} (ht : t.n.size ≤ maxLen) : (fillT b t).n.size ≤ maxLen := by
  unfold fillT
  simp only
  split
  · exact get_small h _
  · exact ht

set_option maxRecDepth 100000 in
set_option maxHeartbeats 4000000 in
theorem l4Fill_any (a : GA) (b : LB) (v x y : Value) (w : World) {S V U : Nat → Prop} (hv : TermsR S w v a.args) (hx : StrsR V w x b.ns) (hy : StrsR U w y b.vs) (hok : b.ok) (hn : a.args.length ≤ 1000000) :
    Calls Tryz.prog 161 #[.agg #[.string a.n, v], .agg #[x, y]] w fun e w' => (∃ v', e = .returned (.agg #[.string a.n, v']) ∧ TermsR (From w.heap.size) w' v' (fillN a b).args) ∧ Ext w w' := by
  obtain ⟨A, c, rfl, hc1, hc2⟩ := SliceR.form hv
  obtain ⟨B, d, rfl, hd1, hd2⟩ := SliceR.form hx
  obtain ⟨D, f, rfl, hf1, hf2⟩ := SliceR.form hy
  obtain ⟨i0, hi0, hz0, hz1, hz2⟩ := info_parts term_info
  have HV := Lib.hid hv
  have HG := Lib.hid (fun (s : ByteArray) (W : World) (hW : Ext w W) => bindGet_any b _ _ s W (hx.ext hW) (hy.ext hW) hok)
  have HS := Lib.hid (strs_small hy)
  obtain ⟨n0, hn0⟩ : ∃ n0, n0 = w.heap.size := ⟨_, rfl⟩
  obtain ⟨W0, hW0⟩ : ∃ W0, W0 = (((w.alloc (.cells #[.string a.n, .slice A a.args.length c] 26)).alloc (.cells #[.slice B b.ns.length d, .slice D b.vs.length f] 113)).alloc (.cells #[.string ⟨#[]⟩, .slice none 0 0] 26)).alloc (.cells #[.string a.n, .slice none 0 0] 26) := ⟨_, rfl⟩
  have HB0 := Lib.hid (show Blk W0 w.heap.size 26 #[.string a.n, .slice A a.args.length c] from by rw [hW0]; exact (((Blk.new _ _ _).alloc _).alloc _).alloc _)
  have HB1 := Lib.hid (show Blk W0 (w.heap.size + 1) 113 #[.slice B b.ns.length d, .slice D b.vs.length f] from by rw [hW0]; exact ((Blk.at_new (by simp)).alloc _).alloc _)
  have HB2 := Lib.hid (show Blk W0 (w.heap.size + 1 + 1) 26 #[.string ⟨#[]⟩, .slice none 0 0] from by rw [hW0]; exact (Blk.at_new (by simp)).alloc _)
  have HB3 := Lib.hid (show Blk W0 (w.heap.size + 1 + 1 + 1) 26 #[.string a.n, .slice none 0 0] from by rw [hW0]; exact Blk.at_new (by simp))
  have HE0 := Lib.hid (show Ext w W0 from by rw [hW0]; exact ((((Ext.refl _).alloc _).alloc _).alloc _).alloc _)
  have hz : W0.heap.size = w.heap.size + 1 + 1 + 1 + 1 := by rw [hW0]; simp
  have HW0 := Lib.hid hW0
  have HZ := Lib.hid hz
  clear hv hx hy hok hn0
  go_enter Tryz.func161, Tryz.ntmps161
  go_wp2
  rw [← HW0.out]
  clear hW0 hz
  go_loopw [6] (fun i wr => ∃ (k : Nat) (u : Value), k ≤ a.args.length ∧ i = .int .i64 k ∧ Hid (Blk wr (w.heap.size + 1 + 1 + 1) 26 #[.string a.n, u]) ∧ Hid (OwnK kTerm (w.heap.size + 1 + 1 + 1 + 1) 33 None wr u ((a.args.take k).map (fillT b))) ∧ Hid (Below (w.heap.size + 1 + 1 + 1) W0 wr)) (fun i _ => a.args.length - (intOf i).toNat)
  case atStart => exact ⟨0, _, Nat.zero_le _, rfl, HB3, Lib.hid OwnK.nil, Lib.hid (Below.refl _ _)⟩
  case round =>
    obtain ⟨k, u, hk, rfl, hob, hown, hbel⟩ := hrel
    have hk0 : (0 : Int) ≤ (k : Int) := by omega
    have hbsz := hbel.out.size
    rw [HZ.out] at hbsz
    have hxw : Ext w wr := Below.trans HE0.out (hbel.out.mono (by omega))
    obtain ⟨OA, on, oc, rfl, hon, ho1, ho2⟩ := hown.out.form2
    have hb0 := HB0.out.below hbel.out (by omega)
    have hb1 := HB1.out.below hbel.out (by omega)
    have hb2 := HB2.out.below hbel.out (by omega)
    have q0 := hb0.cell 0
    have q1 := hb0.cell 1
    have o0 := hob.out.cell 0
    have o1 := hob.out.cell 1
    have of1 := hob.out.frozen 1
    have hs0 := hb0.lt
    have hs1 := hb1.lt
    have hs2 := hb2.lt
    have hs3 := hob.out.lt
    have hlk : ((a.args.take k).map (fillT b)).length = k := by rw [List.length_map, List.length_take]; omega
    have HLK := Lib.hid hlk
    clear hlk
    by_cases hlt : k < a.args.length
    · have hk1 : (k : Int) < (a.args.length : Int) := by omega
      obtain ⟨bb, off, t, rfl, hbb, htk, hts, hc0, hc1'⟩ := TermsR.at_ HV.out hlt
      have r0 := (hxw.cells.1 bb (off + k * 2) hbb).trans hc0
      have r1 := (hxw.cells.1 bb (off + k * 2 + 1) hbb).trans hc1'
      have HT := Lib.hid (show (a.args.take (k + 1)).map (fillT b) = (a.args.take k).map (fillT b) ++ [fillT b t] from by
        obtain ⟨hk', rfl⟩ := List.getElem?_eq_some_iff.1 htk
        rw [List.take_succ_eq_append_getElem hk', List.map_append]; rfl)
      have hlb : bb < wr.heap.size := Nat.lt_of_lt_of_le hbb hxw.size
      have HXW := Lib.hid hxw
      have HBA := Lib.hid hb0
      have HBB := Lib.hid hb1
      have HFS := Lib.hid (fill_small HS.out hts)
      clear htk hc0 hc1' hb0 hb1 hb2 hxw
      cases htv : t.v
      · have HFT := Lib.hid (show fillT b t = ⟨false, t.n⟩ from by unfold fillT; rw [htv]; rfl)
        rw [htv] at r0
        clear htv
        go_wp2_with (first
          | (at_builtin; (refine wpList_appL (k := kTerm) (S := None) (T := None) (base := w.heap.size + 1 + 1 + 1 + 1) (xs := (a.args.take k).map (fillT b)) (ys := [fillT b t]) rfl (.tmp 44) (.tmp 46) 24 (by rfl) i0 _ 24 Tryz.underlying24 hi0 hz0 hz1 hz2 (by rfl) (by rfl) (hown.out.ext (by first | exact ((Ext.refl _).alloc _).alloc _ | exact (Ext.refl _).alloc _)) _ 1 1 (by rfl) (ElemsK.one (k := kTerm) (g := wr.heap.size + 1) (x := fillT b t) (l := [.bool false, .string t.n]) (Blk.at_new (by simp)) (by rw [HFT.out]; exact ⟨rfl, hts⟩)) (fun _ h => h.elim) (maxOf (by rw [HLK.out]; omega)) (by rw [HLK.out]; omega) (by go_size) ?_)
             intro v2 w2 hap
             obtain ⟨B2, n2, d2, rfl, hn2, hd21, hd22⟩ := hap.own.form2
             have HAP := Lib.hid hap
             have hob2 := ((hob.out.alloc _).alloc _).below hap.below (by omega)
             have z0 := hob2.cell 0
             have z1 := hob2.cell 1
             have zf := hob2.frozen 1
             have zl := hob2.lt
             have HOB := Lib.hid hob2
             clear hap hob2))
        go_roundw
        case rel =>
          refine ⟨k + 1, _, by omega, by go_num, Lib.hid (by simpa using HOB.out.set_ 1 (.slice B2 n2 d2)), Lib.hid (by rw [HT.out]; exact HAP.out.own.set (p := ⟨_, 1, none⟩) (Nat.lt_succ_self _) (fun h => h) _), Lib.hid ?_⟩
          refine Below.setCell (Below.trans ?_ (HAP.out.below.mono (show w.heap.size + 1 + 1 + 1 ≤ w.heap.size + 1 + 1 + 1 + 1 by omega))) (Nat.le_refl _) _
          exact Below.trans hbel.out (Below.mono (((Ext.refl wr).alloc _).alloc _) (by omega))
        case measure => simp [intOf]; omega
      · obtain ⟨z, hz⟩ : ∃ z, z = (b.get t.n).getD emptyB := ⟨_, rfl⟩
        have HFT := Lib.hid (show fillT b t = ⟨false, z⟩ from by unfold fillT; rw [htv, hz]; rfl)
        have hzs : z.size ≤ maxLen := by have h := HFS.out; rw [HFT.out] at h; exact h
        obtain ⟨zb, hzb⟩ : ∃ q, q = (b.get t.n).isSome := ⟨_, rfl⟩
        have HGT := Lib.hid (fun (W : World) (hW : Ext w W) => show Calls Tryz.prog 89 #[.agg #[.slice B b.ns.length d, .slice D b.vs.length f], .string t.n] W fun e w' => e = .returned (.tuple #[.string z, .bool zb]) ∧ Ext W w' from by rw [hz, hzb]; exact HG.out t.n W hW)
        rw [htv] at r0
        have s10 := HBB.out.cell 0
        have s11 := HBB.out.cell 1
        have H7 := Lib.hid (Blk.new wr 33 #[.bool false, .string t.n])
        clear htv hz hzb
        go_wp2_with (fail)
        have HSW := Lib.hid (fun (W : World) (hW : Ext wr W) => And.intro ((hW.cells.1 (w.heap.size + 1) 0 hs1).trans s10) (And.intro ((hW.cells.1 (w.heap.size + 1) 1 hs1).trans s11) (And.intro ((hW.cells.1 w.heap.size 1 hs0).trans q1) ((hW.cells.1 bb (off + k * 2 + 1) hlb).trans r1))))
        go_region_held3 (fun w' => w'.cell? ⟨w.heap.size + 1, 0, none⟩ = some (.slice B b.ns.length d) ∧ w'.cell? ⟨w.heap.size + 1, 1, none⟩ = some (.slice D b.vs.length f) ∧ w'.cell? ⟨w.heap.size, 1, none⟩ = some (.slice (some ⟨bb, off, none⟩) a.args.length c) ∧ w'.cell? ⟨bb, off + k * 2 + 1, none⟩ = some (.string t.n))
          (first | exact HS5.out | exact HS4.out | exact HSW.out _ (((Ext.refl wr).alloc _).drew))
          ((go_at_call 89; refine (HGT.out _ (HXW.out.trans' (((Ext.refl wr).alloc _).drew))).mono ?_; rintro e w4 ⟨rfl, hx4⟩
            have HX4 := Lib.hid (show Ext wr w4 from (((Ext.refl wr).alloc _).drew).trans' hx4)
            have hb7 := H7.out.drew.ext hx4
            have t0 := hb7.cell 0
            have t1 := hb7.cell 1
            have tf := hb7.frozen 1
            have tl := hb7.lt
            have HB7 := Lib.hid hb7
            have HS4 := Lib.hid (HSW.out w4 HX4.out)
            have HS5 := Lib.hid (And.intro ((World.cell?_setCell_far w4 ⟨wr.heap.size, 1, none⟩ ⟨w.heap.size + 1, 0, none⟩ (.string z) (Nat.ne_of_gt hs1)).trans HS4.out.1) (And.intro ((World.cell?_setCell_far w4 ⟨wr.heap.size, 1, none⟩ ⟨w.heap.size + 1, 1, none⟩ (.string z) (Nat.ne_of_gt hs1)).trans HS4.out.2.1) (And.intro ((World.cell?_setCell_far w4 ⟨wr.heap.size, 1, none⟩ ⟨w.heap.size, 1, none⟩ (.string z) (Nat.ne_of_gt hs0)).trans HS4.out.2.2.1) ((World.cell?_setCell_far w4 ⟨wr.heap.size, 1, none⟩ ⟨bb, off + k * 2 + 1, none⟩ (.string z) (Nat.ne_of_gt hlb)).trans HS4.out.2.2.2))))
            clear hx4 hb7))
        have hob4 := (hob.out.ext HX4.out).far (p := ⟨wr.heap.size, 1, none⟩) (Nat.ne_of_lt hs3) (.string z)
        have y0 := hob4.cell 0
        have y1 := hob4.cell 1
        have yf := hob4.frozen 1
        have yl := hob4.lt
        have hb75 := HB7.out.set_ 1 (.string z)
        have x0 := hb75.cell 0
        have x1 := hb75.cell 1
        have HOW5 := Lib.hid (show OwnK kTerm (w.heap.size + 1 + 1 + 1 + 1) 33 None (w4.setCell ⟨wr.heap.size, 1, none⟩ (.string z)) (.slice OA on oc) ((a.args.take k).map (fillT b)) from
          (hown.out.ext HX4.out).agree ((Agree.refl _ _).setCell (fun h => h) _) (fun g hg => Below.heap_setCell w4 ⟨wr.heap.size, 1, none⟩ _ g (Nat.ne_of_lt (hown.out.at_ g hg).2)) (by go_size))
        clear hob4 hb75 t0 t1 tf o0 o1 of1
        go_wp2_with (first
          | (at_builtin; (refine wpList_appL (k := kTerm) (S := None) (T := None) (base := w.heap.size + 1 + 1 + 1 + 1) (xs := (a.args.take k).map (fillT b)) (ys := [fillT b t]) rfl (.tmp 44) (.tmp 46) 24 (by rfl) i0 _ 24 Tryz.underlying24 hi0 hz0 hz1 hz2 (by rfl) (by rfl) (HOW5.out.alloc _) _ 1 1 (by rfl) (ElemsK.one (k := kTerm) (g := w4.heap.size) (x := fillT b t) (l := [.bool false, .string z]) (Blk.at_new (by simp)) (by rw [HFT.out]; exact ⟨rfl, hzs⟩)) (fun _ h => h.elim) (maxOf (by rw [HLK.out]; omega)) (by rw [HLK.out]; omega) (by go_size) ?_)
             intro v2 w2 hap
             obtain ⟨B2, n2, d2, rfl, hn2, hd21, hd22⟩ := hap.own.form2
             have HAP := Lib.hid hap
             have hob2 := (((hob.out.ext HX4.out).far (p := ⟨wr.heap.size, 1, none⟩) (Nat.ne_of_lt hs3) _).alloc _).below hap.below (by omega)
             have z0 := hob2.cell 0
             have z1 := hob2.cell 1
             have zf := hob2.frozen 1
             have zl := hob2.lt
             have HOB := Lib.hid hob2
             clear hap hob2))
        go_roundw
        case rel =>
          refine ⟨k + 1, _, by omega, by go_num, Lib.hid (by simpa using HOB.out.set_ 1 (.slice B2 n2 d2)), Lib.hid (by rw [HT.out]; exact HAP.out.own.set (p := ⟨_, 1, none⟩) (Nat.lt_succ_self _) (fun h => h) _), Lib.hid ?_⟩
          refine Below.setCell (Below.trans ?_ (HAP.out.below.mono (show w.heap.size + 1 + 1 + 1 ≤ w.heap.size + 1 + 1 + 1 + 1 by omega))) (Nat.le_refl _) _
          exact (((Below.trans hbel.out (Below.mono HX4.out (by omega))).setCell (by show _ ≤ wr.heap.size; omega) _).alloc (by go_size) _)
        case measure => simp [intOf]; omega
    · have HT := Lib.hid (show (a.args.take k).map (fillT b) = (fillN a b).args from by rw [List.take_of_length_le (show a.args.length ≤ k by omega)]; rfl)
      have r0 := hb2.cell 0
      have r1 := hb2.cell 1
      have rf0 := hb2.frozen 0
      have rf1 := hb2.frozen 1
      go_wp2
      refine bodyPost_ret (v := .agg #[.string a.n, .slice OA on oc]) (by simp [results, Tryz.results161, go_sem, r0, r1]) rfl ⟨⟨_, rfl, ?_⟩, ?_⟩
      · have h1 := hown.out.list (S' := From (w.heap.size + 1 + 1 + 1 + 1)) (fun _ h => h.elim) (fun _ h => h)
        rw [HT.out] at h1
        exact TermsR.imp h1 (fromLe (by omega)) (((Agree.refl _ _).setCell (notFrom (by show w.heap.size + 1 + 1 < _; omega)) _).setCell (notFrom (by show w.heap.size + 1 + 1 < _; omega)) _) (by go_size)
      · exact Ext.setNew (a := w) (Ext.setNew hxw (by show _ ≤ w.heap.size + 1 + 1; omega) _) (by show _ ≤ w.heap.size + 1 + 1; omega) _

end Go.Proofs.YtfjdijakgjhieaaGreat

namespace Go.Proofs.YtfjdijakgjhieaaGreat
set_option linter.unusedSimpArgs false
set_option linter.unusedVariables false
open Go.RowKit

theorem termVars_take {ts : List GT} {k : Nat} {t : GT} (h : ts[k]? = some t) : termVars (ts.take (k + 1)) = termVars (ts.take k) ++ (if t.v = true then [t.n] else []) := by
  unfold termVars
  rw [List.take_add_one, h, List.filter_append, List.map_append]
  cases hv : t.v <;> simp [hv]
theorem flatVars_take {ps : List GP} {k : Nat} {p : GP} (h : ps[k]? = some p) : flatVars (ps.take (k + 1)) = flatVars (ps.take k) ++ termVars p.atom.args := by
  unfold flatVars
  rw [List.take_add_one, h, List.flatMap_append]
  simp
theorem termVars_most (ts : List GT) : (termVars ts).length ≤ ts.length := by
  unfold termVars; rw [List.length_map]; exact List.length_filter_le _ _
theorem flatVars_most : ∀ (ps : List GP), (∀ p ∈ ps, p.atom.args.length ≤ 1000) → (flatVars ps).length ≤ 1000 * ps.length
  | [], _ => by simp [flatVars]
  | p :: ps, h => by
    have h1 := flatVars_most ps (fun q hq => h q (List.mem_cons_of_mem _ hq))
    have h2 := termVars_most p.atom.args
    have h3 := h p List.mem_cons_self
    have e : flatVars (p :: ps) = termVars p.atom.args ++ flatVars ps := by simp [flatVars]
    rw [e, List.length_append, List.length_cons]; omega

theorem OwnK.row {base : Nat} {e : TypeId} {S : Nat → Prop} {w : World} {v : Value} {xs : List ByteArray} (h : OwnK kStr base e S w v xs) (hne : xs ≠ []) :
    ∃ g cap, v = .slice (some ⟨g, 0, none⟩) xs.length cap ∧ base ≤ g ∧ g < w.heap.size ∧ xs.length ≤ cap ∧ cap ≤ maxLen ∧ Sort.Holds encStr w g 0 (xs.map fun s => s.data.toList).toArray := by
  have hl : StrsR Any w v xs := h.list (S' := Any) (fun _ _ => trivial) (fun _ _ => trivial)
  obtain ⟨rows, T, h1, h2, _⟩ := h
  rcases h1.2 with ⟨rfl, h0⟩ | ⟨g, cap, cur, rfl, hb, hg, hc1, hc2, hsz, htk⟩
  · exact absurd (List.length_eq_zero_iff.1 h0) hne
  · have hlt : g < w.heap.size := (Array.getElem?_eq_some_iff.1 hg).1
    refine ⟨g, cap, rfl, hb, hlt, hc1, hc2, fun j hj => ⟨?_, by simp [World.frozen?, hg]⟩⟩
    have hj' : j < xs.length := by simpa using hj
    obtain ⟨b, off, x, hA, _, hx, _, hc⟩ := StrsR.at_ hl hj'
    cases hA
    obtain ⟨hj2, rfl⟩ := List.getElem?_eq_some_iff.1 hx
    rw [hc]
    simp [getElem!_pos, hj']
theorem strs_of_holds {B g cap : Nat} {w : World} {cs more : List (List UInt8)} (hH : Sort.Holds encStr w g 0 (cs ++ more).toArray) (hg : B ≤ g ∧ g < w.heap.size) (hc : cs.length ≤ cap ∧ cap ≤ maxLen) (hs : ∀ x ∈ cs.map strOf, x.size ≤ maxLen) :
    StrsR (From B) w (.slice (some ⟨g, 0, none⟩) cs.length cap) (cs.map strOf) := by
  refine ⟨some ⟨g, 0, none⟩, cap, by rw [List.length_map], by rw [List.length_map]; exact hc.1, hc.2, fun _ => ⟨g, 0, rfl, hg.2, hg.1, fun i x hx => ⟨[.string x], rfl, fun j u hu => ?_, rfl, hs x (List.mem_of_getElem? hx)⟩⟩⟩
  have hj : j = 0 := by
    cases j with
    | zero => rfl
    | succ j => simp at hu
  subst hj
  simp only [List.getElem?_cons_zero, Option.some.injEq] at hu
  subst hu
  obtain ⟨hi, rfl⟩ := List.getElem?_eq_some_iff.1 hx
  have hi' : i < cs.length := by simpa using hi
  have h1 := (hH i (by simp; omega)).1
  have e : (cs ++ more).toArray[i]! = cs[i] := by simp [getElem!_pos, List.getElem_append_left hi', show i < cs.length + more.length by omega]
  rw [e] at h1
  rw [show 0 + (i * 1 + 0) = 0 + i by omega, h1, List.getElem_map]
  rfl
theorem ext_putRow {w wr : World} (hx : Ext w wr) {g n : Nat} (hg : w.heap.size ≤ g) (d : Array (List UInt8)) (os : Array Obj) : Ext w (Sort.grow (Sort.putRow encStr (Sort.ahead wr n) g 0 d) os) := by
  refine ⟨hx.os, hx.tape, hx.output, ?_, fun k hk => ?_⟩
  · have := hx.size
    rw [Sort.size_grow, Sort.size_putRow]
    show _ ≤ wr.heap.size + _
    omega
  · have h1 := hx.size
    rw [Sort.heap_grow_old _ _ (by rw [Sort.size_putRow]; show k < wr.heap.size; omega), ← hx.block k hk]
    show ((Sort.ahead wr n).heap.modify g _)[k]? = _
    rw [Array.getElem?_modify, if_neg (by omega)]
    rfl

set_option maxRecDepth 100000 in
set_option maxHeartbeats 4000000 in
theorem bodyVars_any (ps : List GP) (u : Value) (w : World) {S : Nat → Prop} (hu : PartsR S w u ps) (hps : ∀ p ∈ ps, p.atom.args.length ≤ 1000) (hpl : ps.length ≤ 4) :
    Calls Tryz.prog 69 #[u] w fun e w' => (∃ v', e = .returned v' ∧ StrsR (From w.heap.size) w' v' (varsN ps)) ∧ Ext w w' := by
  obtain ⟨B, d, rfl, hd1, hd2⟩ := SliceR.form hu
  obtain ⟨i0, hi0⟩ : ∃ i, Tryz.prog.info? 9 = some i := ⟨_, by rfl⟩
  have hz0 : i0.zero = some (.string ⟨#[]⟩) := by have := hi0; revert this; intro h; cases h; rfl
  have hz1 : i0.size = 1 := by have := hi0; revert this; intro h; cases h; rfl
  have hz2 : i0.bytes = 16 := by have := hi0; revert this; intro h; cases h; rfl
  have HU := Lib.hid hu
  have HPS := Lib.hid hps
  clear hu hps
  go_enter Tryz.func69, Tryz.ntmps69
  go_wp2
  go_loopw [3, 10] (fun o i wr => ∃ k : Nat, k ≤ ps.length ∧ i = .int .i64 k ∧ Hid (OwnK kStr w.heap.size 9 None wr o (flatVars (ps.take k))) ∧ Ext w wr) (fun _ i _ => ps.length - (intOf i).toNat)
  case atStart => exact ⟨0, Nat.zero_le _, rfl, Lib.hid OwnK.nil, Ext.refl _⟩
  case round =>
    obtain ⟨k, hk, rfl, ho, hx⟩ := hrel
    have hk0 : (0 : Int) ≤ (k : Int) := by omega
    by_cases hlt : k < ps.length
    · have hk1 : (k : Int) < (ps.length : Int) := by omega
      obtain ⟨bp, op, p, vp, rfl, hbp, hpk, hpn, hpt, hp0, hp1, hp2⟩ := PartsR.at_ HU.out hlt
      obtain ⟨G, cg, rfl, hcg1, hcg2⟩ := SliceR.form hpt
      have r0 := (hx.cells.1 bp (op + k * 3) hbp).trans hp0
      have r1 := (hx.cells.1 bp (op + k * 3 + 1) hbp).trans hp1
      have r2 := (hx.cells.1 bp (op + k * 3 + 2) hbp).trans hp2
      have HST := Lib.hid (flatVars_take hpk)
      have HPT := Lib.hid hpt
      have HAR := Lib.hid (HPS.out p (List.mem_of_getElem? hpk))
      have HFL := Lib.hid (show (flatVars (ps.take k)).length ≤ 4000 from by
        have h1 := flatVars_most (ps.take k) (fun q hq => HPS.out q (List.mem_of_mem_take hq))
        rw [List.length_take] at h1; omega)
      clear hp0 hp1 hp2 hpk hpt
      go_wp2
      rename World => w0
      go_loopw [3, 18] (fun o i wz => ∃ r : Nat, r ≤ p.atom.args.length ∧ i = .int .i64 r ∧ Hid (OwnK kStr w.heap.size 9 None wz o (flatVars (ps.take k) ++ termVars (p.atom.args.take r))) ∧ Ext w wz) (fun _ i _ => p.atom.args.length - (intOf i).toNat)
      case atStart => exact ⟨0, Nat.zero_le _, rfl, Lib.hid (by rw [show termVars (p.atom.args.take 0) = [] from rfl, List.append_nil]; exact ho.out.alloc _), hx.alloc _⟩
      case round =>
        obtain ⟨r, hr, rfl, hor, hxr⟩ := hrel
        have hr0 : (0 : Int) ≤ (r : Int) := by omega
        by_cases hlr : r < p.atom.args.length
        · have hr1 : (r : Int) < (p.atom.args.length : Int) := by omega
          obtain ⟨bt, ot, t, rfl, hbt, htk, htn, ht0, ht1⟩ := TermsR.at_ (HPT.out.ext hxr) hlr
          have HTV := Lib.hid (termVars_take htk)
          have HLR := Lib.hid (show (flatVars (ps.take k) ++ termVars (p.atom.args.take r)).length ≤ 5000 from by
            have h1 := termVars_most (p.atom.args.take r)
            have h2 := HFL.out
            have h3 := HAR.out
            rw [List.length_take] at h1
            rw [List.length_append]; omega)
          clear htk
          rcases Bool.eq_false_or_eq_true t.v with hv | hv
          · rw [hv] at ht0
            have HT := Lib.hid (show flatVars (ps.take k) ++ termVars (p.atom.args.take (r + 1)) = (flatVars (ps.take k) ++ termVars (p.atom.args.take r)) ++ [t.n] from by rw [HTV.out, if_pos hv, List.append_assoc])
            have HOW := Lib.hid (show ∀ o1 o2, OwnK kStr w.heap.size 9 None ((wr.alloc o1).alloc o2) _ (flatVars (ps.take k) ++ termVars (p.atom.args.take r)) from fun o1 o2 => (hor.out.alloc o1).alloc o2)
            have hw0 : w.heap.size ≤ wr.heap.size := hxr.size
            clear hv HTV
            go_wp2_with (at_builtin; go_loud (refine wpList_appL (k := kStr) (S := None) (T := None) (base := w.heap.size) (xs := flatVars (ps.take k) ++ termVars (p.atom.args.take r)) (ys := [t.n]) rfl (.tmp 24) (.tmp 27) 56 (by rfl) i0 _ 16 Tryz.underlying56 hi0 hz0 hz1 hz2 (by rfl) (by rfl) (HOW.out _ _) _ 1 1 (by rfl) (ElemsK.one (k := kStr) (x := t.n) (l := [.string t.n]) (Blk.at_new (by simp)) ⟨rfl, htn⟩) (fun _ h => h.elim) (maxOf (by have := HLR.out; simp only [List.length_append, List.length_cons, List.length_nil] at this ⊢; omega)) (by have := HLR.out; omega) (by go_size) ?_; intro v6 w6 hap))
            go_roundw
            case rel => exact ⟨r + 1, by omega, by go_num, Lib.hid (by rw [HT.out]; exact hap.own), hap.toExt ((hxr.alloc _).alloc _) (Nat.le_refl _)⟩
            case measure => simp [intOf]; omega
          · rw [hv] at ht0
            have HT := Lib.hid (show flatVars (ps.take k) ++ termVars (p.atom.args.take (r + 1)) = flatVars (ps.take k) ++ termVars (p.atom.args.take r) from by rw [HTV.out, hv]; simp)
            clear hv HTV
            go_wp2
            go_roundw
            case rel => exact ⟨r + 1, by omega, by go_num, Lib.hid (by rw [HT.out]; exact hor.out.alloc _), hxr.alloc _⟩
            case measure => simp [intOf]; omega
        · have HE := Lib.hid (show flatVars (ps.take (k + 1)) = flatVars (ps.take k) ++ termVars (p.atom.args.take r) from by rw [HST.out, List.take_of_length_le (l := p.atom.args) (i := r) (by omega)])
          go_wp2
          go_roundw
          case rel => exact ⟨k + 1, by omega, by go_num, Lib.hid (by rw [HE.out]; exact hor.out), hxr⟩
          case measure => simp [intOf]; omega
    · have HE := Lib.hid (show ps.take k = ps from List.take_of_length_le (by omega))
      have h1 := ho.out
      rw [HE.out] at h1
      have hsm : ∀ x ∈ varsN ps, x.size ≤ maxLen := fun x hx' => strs_small (h1.list (S' := Any) (fun _ _ => trivial) (fun _ _ => trivial)) x (flatVars_mem.2 hx')
      have hlen : (flatVars ps).length ≤ 4000 := by
        have := flatVars_most ps HPS.out; omega
      by_cases hne : flatVars ps = []
      · have hv : varsN ps = [] := by
          apply List.eq_nil_iff_forall_not_mem.2
          intro x hx'
          have := flatVars_mem.2 hx'
          rw [hne] at this; cases this
        rw [hne] at h1
        obtain ⟨A, c, rfl, hc1, hc2⟩ := h1.form
        have HV := Lib.hid hv
        clear h1 hne hv hsm
        go_wp2_with (first | (go_at_call 102; refine (Tryz.slices_Sort_string_none _ _ _).mono ?_; rintro e w1 ⟨rfl, e1⟩; obtain rfl : wr = w1 := e1.symm) | (go_at_call 103; refine (Tryz.slices_Compact_string_empty _ _ _).mono ?_; rintro e w2 ⟨rfl, e2⟩; obtain rfl : wr = w2 := e2.symm) | fail)
        go_ret
        exact ⟨⟨_, rfl, by rw [HV.out]; exact ⟨A, c, rfl, Nat.zero_le _, hc2, fun h => absurd h (Nat.lt_irrefl 0)⟩⟩, hx⟩
      · obtain ⟨g, cap, rfl, hg1, hg2, hc1, hc2, hH⟩ := OwnK.row h1 hne
        obtain ⟨zs, hzs⟩ : ∃ zs, zs = (flatVars ps).map fun s => s.data.toList := ⟨_, rfl⟩
        have hzl : zs.length = (flatVars ps).length := by rw [hzs, List.length_map]
        have hsl : (sortW zs).length = zs.length := List.length_mergeSort zs
        rw [← hzs] at hH
        have HSO := Lib.hid (Tryz.slices_Sort_string g 0 cap zs wr hH hg2 (by omega))
        have HW1 := Lib.hid (fun (q : Nat) (os : Array Obj) => show Sort.Holds encStr (Sort.grow (Sort.putRow encStr (Sort.ahead wr q) g 0 (sortW zs).toArray) os) g 0 (sortW zs).toArray from
          Sort.holds_grow _ _ _ _ _ _ (by rw [Sort.size_putRow]; exact hg2) (Sort.holds_putRow _ _ _ _ zs.toArray _ (Sort.holds_ahead _ _ _ _ _ _ hH) (by simp [hsl])))
        have HCO := Lib.hid (fun (W : World) (hW : Sort.Holds encStr W g 0 (sortW zs).toArray) => Tryz.slices_Compact_string g 0 cap (sortW zs) W hW (by omega) (by omega))
        have HX1 := Lib.hid (fun (q : Nat) (os : Array Obj) => ext_putRow (n := q) hx hg1 (sortW zs).toArray os)
        rw [hsl, hzl] at HCO
        rw [hzl] at HSO
        have HCV := Lib.hid (show (Lib.compact (sortW zs)).map strOf = varsN ps from by rw [hzs]; exact compact_vars ps)
        have HCL := Lib.hid (Lib.compact_length_le (sortW zs))
        have HZ := Lib.hid (show (sortW zs).length ≤ cap ∧ (sortW zs).length = (flatVars ps).length from ⟨by omega, by omega⟩)
        have HSM := Lib.hid hsm
        have HG := Lib.hid hg2
        clear h1 hne hsm hH hzs hzl hsl
        go_wp2_with (first | (go_at_call 102; refine HSO.out.mono ?_; rintro e w1 ⟨rfl, q1, os1, e1⟩; have HE1 := Lib.hid e1; clear e1; have HH1 := Lib.hid (HE1.out ▸ HW1.out q1 os1)) | (go_at_call 103; refine (HCO.out _ HH1.out).mono ?_; rintro e w2 ⟨rfl, q2, e2⟩; have HE2 := Lib.hid e2; clear e2) | fail)
        go_ret
        have hx1 : Ext w w1 := by rw [HE1.out]; exact HX1.out q1 os1
        have hx2 : Ext w w2 := by
          have := ext_putRow (n := q2) hx1 hg1 (Lib.compact (sortW zs) ++ List.replicate ((flatVars ps).length - (Lib.compact (sortW zs)).length) []).toArray #[]
          rw [Sort.grow_empty] at this
          rw [HE2.out]; exact this
        have hgw : g < w2.heap.size := by
          rw [HE2.out, Sort.size_putRow]
          show g < w1.heap.size
          rw [HE1.out, Sort.size_grow, Sort.size_putRow]
          have := HG.out
          show g < wr.heap.size + _
          omega
        have hh2 : Sort.Holds encStr w2 g 0 (Lib.compact (sortW zs) ++ List.replicate ((flatVars ps).length - (Lib.compact (sortW zs)).length) []).toArray := by
          rw [HE2.out]
          refine Sort.holds_putRow _ _ _ _ (sortW zs).toArray _ (Sort.holds_ahead _ _ _ _ _ _ HH1.out) ?_
          have h1 := HCL.out
          have h2 := HZ.out.2
          simp; omega
        refine ⟨⟨_, rfl, ?_⟩, hx2⟩
        rw [← HCV.out]
        exact strs_of_holds hh2 ⟨hg1, hgw⟩ ⟨Nat.le_trans HCL.out HZ.out.1, hc2⟩ (by rw [HCV.out]; exact HSM.out)

end Go.Proofs.YtfjdijakgjhieaaGreat
