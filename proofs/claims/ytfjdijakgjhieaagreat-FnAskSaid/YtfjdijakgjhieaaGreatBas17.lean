/- Part of the texts of a proof: own texts joined in the order of their building; what they say stands at each theorem. -/
import Derived.Test.YtfjdijakgjhieaaGreatBas03
import Derived.StillTailTactics
import Derived.Test.YtfjdijakgjhieaaGreatBas16
import Derived.Test.YtfjdijakgjhieaaGreatBas13
import Derived.Deep.RegionHeld3
namespace Go.Proofs.YtfjdijakgjhieaaGreat
set_option linter.unusedSimpArgs false
set_option linter.unusedVariables false
open Go.RowKit

set_option maxRecDepth 100000 in
set_option maxHeartbeats 1000000 in
theorem wordOf_any (s : GS) (S : Sea) (sb : Nat) (w : World) (hs : SeaAt w sb S) (ho : okSlot 12 s) :
 Calls Tryz.prog 203 #[.pointer (some ⟨sb, 18, none⟩), .agg #[.int .i64 s.num, .string s.w]] w fun e w' => e = .returned (.string (wordOf S.W s)) ∧ Ext w w' := by
 cases hv : s.v with
 | none =>
   have hn : s.num = -1 := by unfold GS.num; rw [hv]
   have HW := Lib.hid (show wordOf S.W s = s.w from by unfold wordOf; rw [hv])
   rw [hn]
   clear hv hn ho
   go_enter Tryz.func203, Tryz.ntmps203
   go_wp2
   go_ret
   exact ⟨by rw [HW.out]; rfl, (Ext.refl _).alloc _⟩
 | some v =>
   have hn : s.num = (v : Int) := by unfold GS.num; rw [hv]
   have hv12 : v < 12 := by unfold okSlot at ho; rw [hv] at ho; exact ho
   have HW := Lib.hid (show wordOf S.W s = S.W.at_ v from by unfold wordOf; rw [hv])
   have h0 := (hs.ext ((Ext.refl w).alloc (.cells #[.int .i64 (v : Int), .string s.w] 218))).word hv12
   have hl := hs.lt
   have hb := Blk.new w 218 #[.int .i64 (v : Int), .string s.w]
   have b0 := hb.cell 0
   have hk0 : (0 : Int) ≤ (v : Int) := by omega
   have hk1 : (v : Int) < 12 := by omega
   rw [hn]
   clear hv hn ho hs
   go_enter Tryz.func203, Tryz.ntmps203
   go_wp2
   refine calm_region (by kernel_rfl) (by kernel_rfl) ?_
   repeat (go_big_quiet_step (fail))
   refine wpQuiet_nil ?_
   rintro w1 ⟨⟨_, hx1⟩, rfl⟩
   go_wp2
   go_ret
   exact ⟨by rw [HW.out]; rfl, ((Ext.refl _).alloc _).trans' hx1⟩

/-- What is bound from m on is taken back. -/
def Sea.back (s : Sea) (m : Nat) : Sea := { s with W := clearW s.W ((s.bd.take s.cnt).drop m), cnt := m }
theorem back_at {w : World} {sb : Nat} {s : Sea} (h : SeaAt w sb s) (hc : s.cnt ≤ 12) : SeaAt w sb (s.back s.cnt) := by
 have e : s.back s.cnt = s := by
  unfold Sea.back
  rw [List.drop_eq_nil_of_le (by rw [List.length_take]; omega)]
  cases s; rfl
 rw [e]; exact h
theorem back_step {s : Sea} {m : Nat} (hm : m < s.cnt) (hl : s.bd.length = 12) (hc : s.cnt ≤ 12) : clearW s.W ((s.bd.take s.cnt).drop m) = (clearW s.W ((s.bd.take s.cnt).drop (m + 1))).set (s.bd.getD m 0) noWord := by
 have hx : (s.bd.take s.cnt)[m]? = some (s.bd.getD m 0) := by
  rw [List.getElem?_take_of_lt hm, List.getD_eq_getElem?_getD, List.getElem?_eq_getElem (by omega)]; rfl
 rw [drop_cons hx]
 rfl

set_option maxRecDepth 100000 in
set_option maxHeartbeats 2000000 in
theorem undo_any (S : Sea) (sb c : Nat) (w : World) (hs : SeaAt w sb S) (hc : c ≤ S.cnt) (hn : S.cnt ≤ 12) (hb : ∀ i, i < S.cnt → S.bd.getD i 0 < 12) :
 Calls Tryz.prog 184 #[.pointer (some ⟨sb, 18, none⟩), .int .i64 (c : Int)] w fun e w' => e = .returned (.tuple #[]) ∧ SeaAt w' sb (S.back c) ∧ Inside (fun b => b = sb) w w' := by
 have HB := Lib.hid hb
 have h0 := back_at hs hn
 clear hb
 go_enter Tryz.func184, Tryz.ntmps184
 go_wp2
 go_loopw [] (fun wr => ∃ m : Nat, c ≤ m ∧ m ≤ S.cnt ∧ Hid (SeaAt wr sb (S.back m)) ∧ Hid (Inside (fun b => b = sb) w wr)) (fun wr => match wr.cell? ⟨sb, 42, none⟩ with | some (.int _ n) => n.toNat | _ => 0)
 case atStart => exact ⟨S.cnt, hc, Nat.le_refl _, Lib.hid h0, Lib.hid (Inside.refl _ _)⟩
 case round =>
  obtain ⟨m, hm1, hm2, hse, hin⟩ := hrel
  have q0 := hse.out.cnt
  have hl := hse.out.lt
  have qf := hse.out.frozen 42
  simp only [Sea.back] at q0
  by_cases hgt : c < m
  · obtain ⟨m', rfl⟩ : ∃ m', m = m' + 1 := ⟨m - 1, by omega⟩
    have hg1 : (c : Int) < ((m' + 1 : Nat) : Int) := by omega
    have hg2 : (((m' + 1 : Nat) : Int)) - 1 = (m' : Int) := by omega
    go_wp2_with fail
    have hs1 := hse.out.setC m'
    have hi1 := hin.out.trans' (Inside.set (S := fun b => b = sb) wr ⟨sb, 42, none⟩ (.int .i64 (m' : Int)) rfl)
    generalize wr.setCell ⟨sb, 42, none⟩ (.int .i64 (m' : Int)) = w1 at hs1 hi1 ⊢
    have hm12 : m' < 12 := by omega
    have hv12 := HB.out m' (by omega)
    obtain ⟨v, hv⟩ : ∃ v, v = S.bd.getD m' 0 := ⟨_, rfl⟩
    have p0 := hs1.cnt
    have p1 := hs1.bound hm12
    simp only [Sea.back] at p0 p1
    rw [← hv] at p1 hv12
    have p2 := hs1.word hv12
    have pf := hs1.frozen (18 + v)
    have hl1 := hs1.lt
    have hk0 : (0 : Int) ≤ (m' : Int) := by omega
    have hk1 : (m' : Int) < 12 := by omega
    have hk2 : (0 : Int) ≤ (v : Int) := by omega
    have hk3 : (v : Int) < 12 := by omega
    have HSE := Lib.hid hs1
    have HI1 := Lib.hid hi1
    have HV := Lib.hid hv
    clear hs1 hi1 hv qf
    go_still_tail 13, (by kernel_rfl)
    change wpList _ _ _ _ _ w1.drew
    go_wp2
    go_roundw
    case rel =>
     refine ⟨m', by omega, by omega, Lib.hid ?_, Lib.hid (HI1.out.trans' ((Inside.of_ext (Ext.refl w1).drew).trans' (Inside.set (S := fun b => b = sb) w1.drew ⟨sb, 18 + v, none⟩ _ rfl)))⟩
     have h := (HSE.out.ext (Ext.refl w1).drew).setW hv12 (x := noWord) (Nat.zero_le _)
     have e : S.back m' = { { S.back (m' + 1) with cnt := m' } with W := (S.back (m' + 1)).W.set v noWord } := by
      have h2 := back_step (s := S) (m := m') (by omega) HSE.out.lB hn
      unfold Sea.back
      rw [h2, HV.out]
     rw [e]; exact h
    case measure =>
     have h9 : (w1.setCell ⟨sb, 18 + v, none⟩ (.string ⟨#[]⟩)).cell? ⟨sb, 42, none⟩ = some (.int .i64 (m' : Int)) := (HSE.out.setW hv12 (x := noWord) (Nat.zero_le _)).cnt
     simp [q0, h9]
  · have he : m = c := by omega
    subst he
    have hg1 : ¬ ((m : Int) < (m : Int)) := by omega
    go_wp2
    go_end0
    exact ⟨rfl, hse.out, hin.out⟩

/-- What a match leaves. -/
structure Matched (S T : Sea) (l : List Nat) : Prop where
 same : T = { S with W := T.W, bd := T.bd, cnt := T.cnt }
 cnt : T.cnt = S.cnt + l.length
 bd : T.bd.take T.cnt = S.bd.take S.cnt ++ l
 ok : Bok T.W (T.bd.take T.cnt)
theorem Matched.refl {S : Sea} (h : Bok S.W (S.bd.take S.cnt)) : Matched S S [] := ⟨by cases S; rfl, by simp, by simp, h⟩
theorem Matched.step {S T : Sea} {l : List Nat} {v : Nat} {x : ByteArray} (h : Matched S T l) (hW : T.W.length = 12) (hB : T.bd.length = 12) (hv : v < 12) (hn : isNo (T.W.at_ v) = true) (hx : isNo x = false) :
 T.cnt < 12 ∧ Matched S { T with W := T.W.set v x, bd := T.bd.set T.cnt v, cnt := T.cnt + 1 } (l ++ [v]) := by
 have hl : (T.bd.take T.cnt).length < 12 := h.ok.room hW hv hn
 have hlt : T.cnt < 12 := by rw [List.length_take] at hl; omega
 have ht : (T.bd.set T.cnt v).take (T.cnt + 1) = T.bd.take T.cnt ++ [v] := by
  rw [List.take_add_one, List.take_set_of_le (Nat.le_refl _), List.getElem?_set_self (by omega)]; rfl
 refine ⟨hlt, ?_, ?_, ?_, ?_⟩
 · have := h.same
   cases S; cases T; simp only [Sea.mk.injEq] at this ⊢; exact ⟨this.1, this.2.1, this.2.2.1, this.2.2.2.1, this.2.2.2.2.1, this.2.2.2.2.2.1, this.2.2.2.2.2.2.1, trivial, trivial, trivial, this.2.2.2.2.2.2.2.2.2.2⟩
 · simp only [List.length_append, List.length_cons, List.length_nil]; have := h.cnt; omega
 · show (T.bd.set T.cnt v).take (T.cnt + 1) = _
   rw [ht, h.bd, List.append_assoc]
 · show Bok (T.W.set v x) ((T.bd.set T.cnt v).take (T.cnt + 1))
   rw [ht]
   exact h.ok.snoc hW hv hn hx
theorem matchW_drop {ss : List GS} {ts : List GT} {k : Nat} {s : GS} {t : GT} {W : Words} (hs : ss[k]? = some s) (ht : ts[k]? = some t) :
 matchW (ss.drop k) (ts.drop k) W = (if t.v || isNo t.n then (W, false) else if isNo (wordOf W s) then matchW (ss.drop (k + 1)) (ts.drop (k + 1)) (bindW W s t.n) else if wordOf W s = t.n then matchW (ss.drop (k + 1)) (ts.drop (k + 1)) W else (W, false)) := by
 rw [drop_cons hs, drop_cons ht]; rfl
theorem traceW_drop {ss : List GS} {ts : List GT} {k : Nat} {s : GS} {t : GT} {W : Words} (hs : ss[k]? = some s) (ht : ts[k]? = some t) :
 traceW (ss.drop k) (ts.drop k) W = (if t.v || isNo t.n then [] else if isNo (wordOf W s) then s.v.toList ++ traceW (ss.drop (k + 1)) (ts.drop (k + 1)) (bindW W s t.n) else if wordOf W s = t.n then traceW (ss.drop (k + 1)) (ts.drop (k + 1)) W else []) := by
 rw [drop_cons hs, drop_cons ht]; rfl
theorem matchW_end {ss : List GS} {ts : List GT} {k : Nat} {W : Words} (h : ss.length ≤ k) : matchW (ss.drop k) (ts.drop k) W = (W, true) ∧ traceW (ss.drop k) (ts.drop k) W = [] := by
 rw [List.drop_eq_nil_of_le h]
 exact ⟨by cases ts.drop k <;> rfl, by cases ts.drop k <;> rfl⟩

end Go.Proofs.YtfjdijakgjhieaaGreat

namespace Go.Proofs.YtfjdijakgjhieaaGreat
set_option linter.unusedSimpArgs false
set_option linter.unusedVariables false
open Go.RowKit

/-- The place of a text: the last fact that has it. -/
def pmOf (l : List GA) (s : ByteArray) : Option Nat := l.zipIdx.foldl (fun o x => if s = strOf (atomL x.1) then some x.2 else o) none
theorem pmOf_snoc (l : List GA) (a : GA) : pmOf (l ++ [a]) = fun s => if s = strOf (atomL a) then some l.length else pmOf l s := by
 funext s
 unfold pmOf
 rw [List.zipIdx_append, List.foldl_append]
 simp
theorem pmOf_some {l : List GA} {s : ByteArray} : (pmOf l s).isSome = l.any (fun a => decide (s = strOf (atomL a))) := by
 have key : ∀ (l : List GA) (n : Nat) (o : Option Nat), ((l.zipIdx n).foldl (fun o x => if s = strOf (atomL x.1) then some x.2 else o) o).isSome = (o.isSome || l.any (fun a => decide (s = strOf (atomL a)))) := by
  intro l
  induction l with
  | nil => intro n o; simp
  | cons a l ih =>
    intro n o
    rw [List.zipIdx_cons, List.foldl_cons, ih, List.any_cons]
    by_cases h : s = strOf (atomL a)
    · simp [h]
    · simp [h]
 have := key l 0 none
 simpa [pmOf] using this
set_option maxRecDepth 100000 in
set_option maxHeartbeats 4000000 in
theorem storeOf_any (xs : List GA) (v : Value) (w : World) {S : Nat → Prop} (hv : AtomsR S w v xs) (hS : ∀ b, S b → b < w.heap.size) (ha : ∀ a ∈ xs, a.args.length ≤ 1000 ∧ wAtom a ≤ 4194304) (hl : xs.length ≤ 1000) :
 Calls Tryz.prog 112 #[v] w fun e w' => e = .returned (.pointer (some ⟨w.heap.size + 1 + 1, 0, none⟩)) ∧
  (∃ fv rv f nm np, StoreO (w.heap.size + 1 + 1 + 1) S (fun b => b < w.heap.size) w' (w.heap.size + 1 + 1) w.heap.size (w.heap.size + 1) fv rv f xs (List.replicate xs.length 0) (placesOf xs) nm (pmOf xs) np) ∧ Ext w w' := by
 obtain ⟨A, c, rfl, hc1, hc2⟩ := SliceR.form hv
 have HV := Lib.hid hv
 have HA := Lib.hid ha
 obtain ⟨w0, hw0⟩ : ∃ w0, w0 = ((w.alloc (.map #[] 0)).alloc (.map #[] 0)).alloc (.cells #[.slice none 0 0, .slice none 0 0, .map (some w.heap.size), .map (some (w.heap.size + 1))] 189) := ⟨_, rfl⟩
 have HX0 := Lib.hid (show Ext w w0 from by rw [hw0]; exact (((Ext.refl _).alloc _).alloc _).alloc _)
 have hz : w0.heap.size = w.heap.size + 1 + 1 + 1 := by rw [hw0]; simp
 have HS0 := Lib.hid (show StoreO (w.heap.size + 1 + 1 + 1) S (fun b => b < w.heap.size) w0 (w.heap.size + 1 + 1) w.heap.size (w.heap.size + 1) nilS nilS (fun _ => nilS) [] [] (placesOf []) 0 (pmOf []) 0 from by
  refine ⟨?_, ⟨by omega, by omega, by omega, by omega, by omega, by omega, by omega⟩, OwnK.nil, hS, OwnK.nil, ?_, fun n s o => OwnK.nil, ?_, (fun g hg => by cases hg), (fun g hg => by cases hg), (fun n s o g hg => by cases hg), fun b hb => ⟨by omega, by omega, by omega, by omega⟩⟩
  · rw [hw0]; exact Blk.at_new (by simp)
  · rw [hw0]; exact ((MapV.made w).ext ((Ext.refl _).alloc _)).ext ((Ext.refl _).alloc _)
  · have h := MapN.made (w.alloc (.map #[] 0))
    rw [World.size_alloc] at h
    rw [hw0]; exact (h.alloc _).same (fun _ => rfl))
 have HW0 := Lib.hid hw0
 have hmm := @run_makeMap Tryz.prog
 clear hv ha hw0 hz
 go_enter Tryz.func112, Tryz.ntmps112
 go_wp2_with fail
 rw [← HW0.out]
 clear hmm
 go_loopw [12] (fun i wr => ∃ (k : Nat) (fv rv : Value) (f : Value → Value) (nm np : Nat), k ≤ xs.length ∧ i = .int .i64 k ∧ nm ≤ 2000 * k ∧ np ≤ k ∧ Hid (StoreO (w.heap.size + 1 + 1 + 1) S (fun b => b < w.heap.size) wr (w.heap.size + 1 + 1) w.heap.size (w.heap.size + 1) fv rv f (xs.take k) (List.replicate k 0) (placesOf (xs.take k)) nm (pmOf (xs.take k)) np) ∧ Ext w wr) (fun i _ => xs.length - (intOf i).toNat)
 case atStart => exact ⟨0, _, _, _, 0, 0, Nat.zero_le _, rfl, Nat.zero_le _, Nat.zero_le _, HS0, HX0.out⟩
 case round =>
  obtain ⟨k, fv, rv, f, nm, np, hk, rfl, hnm, hnp, hst, hx⟩ := hrel
  have hk0 : (0 : Int) ≤ (k : Int) := by omega
  by_cases hlt : k < xs.length
  · have hk1 : (k : Int) < (xs.length : Int) := by omega
    obtain ⟨b, off, a, va, rfl, hb, hak, han, hat, hc0, hc1'⟩ := AtomsR.at_ HV.out hlt
    obtain ⟨G, cg, rfl, hcg1, hcg2⟩ := SliceR.form hat
    have r0 := (hx.cells.1 b (off + k * 2) hb).trans hc0
    have r1 := (hx.cells.1 b (off + k * 2 + 1) hb).trans hc1'
    have hbw : b < wr.heap.size := Nat.lt_of_lt_of_le hb hx.size
    have HT := Lib.hid (show xs.take (k + 1) = xs.take k ++ [a] from by rw [List.take_add_one, hak]; rfl)
    have HR := Lib.hid (show List.replicate (k + 1) 0 = List.replicate k 0 ++ [0] from List.replicate_succ')
    obtain ⟨ha1, ha2⟩ := HA.out a (List.mem_of_getElem? hak)
    have hxa : Ext w (wr.alloc (.cells #[.string a.n, .slice G a.args.length cg] 26)) := hx.alloc _
    have HP := Lib.hid (put_any a _ 0 _ S _ _ _ _ _ fv rv f (xs.take k) (List.replicate k 0) nm (pmOf (xs.take k)) np (hst.out.ext ((Ext.refl wr).alloc (.cells #[.string a.n, .slice G a.args.length cg] 26))) (hat.ext hxa) han ha1 ha2 (by rw [List.length_take]; omega) (by rw [List.length_replicate]; omega) (by omega) (by omega))
    have HXA := Lib.hid hxa
    have hlen : (xs.take k).length = k := by rw [List.length_take]; omega
    rw [hlen] at HP
    clear hc0 hc1' hat hak hxa hlen
    go_wp2_with (go_at_call 147; refine HP.out.mono ?_; rintro e w1 ⟨rfl, ⟨fv1, rv1, f1, nm1, np1, hst1, hnm1, hnp1⟩, hsl1⟩; have HST1 := Lib.hid hst1; have HSL1 := Lib.hid hsl1; clear hst1 hsl1)
    go_roundw
    case rel =>
     refine ⟨k + 1, fv1, rv1, f1, nm1, np1, by omega, by go_num, by omega, by omega, Lib.hid ?_, ?_⟩
     · have h := HST1.out
       rw [HT.out, HR.out, pmOf_snoc]
       have hlen : (xs.take k).length = k := by rw [List.length_take]; omega
       rw [hlen]
       exact h
     · exact ⟨HSL1.out.os.trans HXA.out.os, HSL1.out.tape.trans HXA.out.tape, HSL1.out.output.trans HXA.out.output, Nat.le_trans HXA.out.size HSL1.out.size, fun i hi => (HSL1.out.block i hi (Nat.lt_of_lt_of_le hi HXA.out.size)).trans (HXA.out.block i hi)⟩
    case measure => simp [intOf]; omega
  · have hke : k = xs.length := by omega
    subst hke
    have h := hst.out
    rw [List.take_length] at h
    go_wp2
    go_ret
    exact ⟨rfl, ⟨_, _, _, _, _, h⟩, hx⟩

/-- A store that is made: what it says. -/
structure StoreR (F : Nat → Prop) (w : World) (sb : Nat) (facts : List GA) (rounds : List Nat) (fv rv : Value) (mb pb nm np : Nat) (f : Value → Value) : Prop where
 blk : Blk w sb 189 #[fv, rv, .map (some mb), .map (some pb)]
 sF : F sb
 mF : F mb
 pF : F pb
 fa : AtomsR F w fv facts
 ro : NumsR F w rv rounds
 mp : MapV w mb nm f
 gr : ∀ n s o, NumsR F w (f (wk n s o)) (placesOf facts n s o)
 pl : MapN w pb np (pmOf facts)
theorem StoreR.inside {F Q : Nat → Prop} {w w' : World} {sb : Nat} {facts : List GA} {rounds : List Nat} {fv rv : Value} {mb pb nm np : Nat} {f : Value → Value} (h : StoreR F w sb facts rounds fv rv mb pb nm np f) (hi : Inside Q w w') (hF : ∀ b, F b → ¬ Q b) : StoreR F w' sb facts rounds fv rv mb pb nm np f := by
 have hag : Agree F w w' := fun b hb hlt => hi.block b hlt (hF b hb)
 exact ⟨hi.blk h.blk (hF _ h.sF), h.sF, h.mF, h.pF, h.fa.imp (fun _ h => h) hag hi.size, h.ro.impL (fun _ h _ => h) hag hi.size, h.mp.inside hi (hF _ h.mF), fun n s o => (h.gr n s o).impL (fun _ h _ => h) hag hi.size, h.pl.ext (hi.block _ h.pl.lt (hF _ h.pF))⟩
theorem StoreR.ext {F : Nat → Prop} {w w' : World} {sb : Nat} {facts : List GA} {rounds : List Nat} {fv rv : Value} {mb pb nm np : Nat} {f : Value → Value} (h : StoreR F w sb facts rounds fv rv mb pb nm np f) (hx : Ext w w') : StoreR F w' sb facts rounds fv rv mb pb nm np f :=
 h.inside (Q := fun _ => False) (Inside.of_ext hx) (fun _ _ h => h)
theorem StoreO.toR {base : Nat} {S T : Nat → Prop} {w : World} {sb mb pb : Nat} {fv rv : Value} {f : Value → Value} {facts : List GA} {rounds : List Nat} {nm np : Nat} (h : StoreO base S T w sb mb pb fv rv f facts rounds (placesOf facts) nm (pmOf facts) np) {lo : Nat} (h1 : lo ≤ sb ∧ lo ≤ mb ∧ lo ≤ pb) :
 StoreR (fun b => S b ∨ (lo ≤ b ∧ b < w.heap.size)) w sb facts rounds fv rv mb pb nm np f := by
 obtain ⟨l1, l2, l3, _⟩ := h.lo
 have hb : lo ≤ base := by omega
 refine ⟨h.blk, .inr ⟨h1.1, h.blk.lt⟩, .inr ⟨h1.2.1, h.mp.lt⟩, .inr ⟨h1.2.2, h.pl.lt⟩, ?_, ?_, h.mp, fun n s o => ?_, h.pl⟩
 · exact AtomsR.impL (S := fun b => S b ∨ base ≤ b) (h.fa.list (S' := fun b => S b ∨ base ≤ b) (fun b hb => .inl hb) (fun b hb => .inr hb)) (fun b hb hlt => hb.imp id (fun h => ⟨by omega, hlt⟩)) (.refl _ _) (Nat.le_refl _)
 · exact NumsR.impL (S := fun b => base ≤ b) (h.ro.list (S' := fun b => base ≤ b) (fun b hb => hb.elim) (fun b hb => hb)) (fun b hb hlt => .inr ⟨by omega, hlt⟩) (.refl _ _) (Nat.le_refl _)
 · exact NumsR.impL (S := fun b => base ≤ b) ((h.gr n s o).list (S' := fun b => base ≤ b) (fun b hb => hb.elim) (fun b hb => hb)) (fun b hb hlt => .inr ⟨by omega, hlt⟩) (.refl _ _) (Nat.le_refl _)

end Go.Proofs.YtfjdijakgjhieaaGreat

namespace Go.Proofs.YtfjdijakgjhieaaGreat
set_option linter.unusedSimpArgs false
set_option linter.unusedVariables false
open Go.RowKit

def termP (W : Words) (s : GS) : GT := ⟨false, wordOf W s⟩

set_option maxRecDepth 100000 in
set_option maxHeartbeats 4000000 in
theorem bfact_any (p : GPat) (pv : Value) (S : Sea) (sb : Nat) (w : World) {P : Nat → Prop} (hs : SeaAt w sb S) (hp : SlotsR P w pv p.slots) (hok : ∀ s ∈ p.slots, okSlot 12 s) (hn : p.slots.length ≤ 1000) :
 Calls Tryz.prog 201 #[.pointer (some ⟨sb, 18, none⟩), .agg #[.string p.n, pv]] w fun e w' => (∃ v', e = .returned (.agg #[.string p.n, v']) ∧ TermsR (From w.heap.size) w' v' (factP S.W p).args) ∧ Ext w w' := by
 obtain ⟨A, c, rfl, hc1, hc2⟩ := SliceR.form hp
 obtain ⟨i0, hi0, hz0, hz1, hz2⟩ := info_parts term_info
 obtain ⟨W0, hW0⟩ : ∃ W0, W0 = ((w.alloc (.cells #[.string p.n, .slice A p.slots.length c] 184)).alloc (.cells #[.string ⟨#[]⟩, .slice none 0 0] 26)).alloc (.cells #[.string p.n, .slice none 0 0] 26) := ⟨_, rfl⟩
 have HB0 := Lib.hid (show Blk W0 w.heap.size 184 #[.string p.n, .slice A p.slots.length c] from by rw [hW0]; exact ((Blk.new _ _ _).alloc _).alloc _)
 have HB1 := Lib.hid (show Blk W0 (w.heap.size + 1) 26 #[.string ⟨#[]⟩, .slice none 0 0] from by rw [hW0]; exact (Blk.at_new (by simp)).alloc _)
 have HB2 := Lib.hid (show Blk W0 (w.heap.size + 1 + 1) 26 #[.string p.n, .slice none 0 0] from by rw [hW0]; exact Blk.at_new (by simp))
 have HE0 := Lib.hid (show Ext w W0 from by rw [hW0]; exact (((Ext.refl _).alloc _).alloc _).alloc _)
 have hz : W0.heap.size = w.heap.size + 1 + 1 + 1 := by rw [hW0]; simp
 have HW0 := Lib.hid hW0
 have HZ := Lib.hid hz
 have HS := Lib.hid (hs.ext HE0.out)
 have HP := Lib.hid hp
 have HOK := Lib.hid hok
 have HAP0 := Lib.hid (show (factP S.W p).args = p.slots.map (termP S.W) from rfl)
 have hsl := hs.lt
 clear hs hp hok hW0 hz
 go_enter Tryz.func201, Tryz.ntmps201
 go_wp2_with fail
 rw [← HW0.out]
 go_loopw [14] (fun i wr => ∃ (k : Nat) (q : Value), k ≤ p.slots.length ∧ i = .int .i64 k ∧ Hid (Blk wr (w.heap.size + 1 + 1) 26 #[.string p.n, q]) ∧ Hid (OwnK kTerm (w.heap.size + 1 + 1 + 1) 33 None wr q ((p.slots.take k).map (termP S.W))) ∧ Hid (Inside (fun b => b = w.heap.size + 1 + 1) W0 wr)) (fun i _ => p.slots.length - (intOf i).toNat)
 case atStart => exact ⟨0, _, Nat.zero_le _, rfl, HB2, Lib.hid OwnK.nil, Lib.hid (Inside.refl _ _)⟩
 case round =>
  obtain ⟨k, q, hk, rfl, hob, hown, hin⟩ := hrel
  have hk0 : (0 : Int) ≤ (k : Int) := by omega
  obtain ⟨OA, on, oc, rfl, hon, ho1, ho2⟩ := hown.out.form2
  have hsz := hin.out.size
  rw [HZ.out] at hsz
  have o0 := hob.out.cell 0
  have o1 := hob.out.cell 1
  have of1 := hob.out.frozen 1
  have hl1 := hob.out.lt
  by_cases hlt : k < p.slots.length
  · have hk1 : (k : Int) < (p.slots.length : Int) := by omega
    obtain ⟨bs, os, sl, rfl, hbs, hsk, hss, hs0, hs1⟩ := SlotsR.at_ HP.out hlt
    obtain ⟨z, hzz⟩ : ∃ z, z = wordOf S.W sl := ⟨_, rfl⟩
    have HT := Lib.hid (show (p.slots.take (k + 1)).map (termP S.W) = (p.slots.take k).map (termP S.W) ++ [⟨false, z⟩] from by rw [hzz, List.take_add_one, hsk, List.map_append]; rfl)
    have HLK := Lib.hid (show ((p.slots.take k).map (termP S.W)).length = k from by rw [List.length_map, List.length_take]; omega)
    have hinw := (Inside.of_ext (S := fun b => b = w.heap.size + 1 + 1) HE0.out).trans' hin.out
    have c0 := hinw.cell hbs (fun e => by omega) hs0
    have c1 := hinw.cell hbs (fun e => by omega) hs1
    have hbsw : bs < wr.heap.size := by omega
    have HSW := Lib.hid (hin.out.sub (T := fun b => b = w.heap.size + 1 + 1) (fun _ h _ => h))
    have hse := HS.out.inside hin.out (fun e => by omega)
    have hzs : z.size ≤ maxLen := by rw [hzz]; exact wordOf_small hse hss
    have HWO := Lib.hid (fun (W : World) (hW : Ext wr W) => show Calls Tryz.prog 203 #[.pointer (some ⟨sb, 18, none⟩), .agg #[.int .i64 sl.num, .string sl.w]] W fun e w' => e = .returned (.string z) ∧ Ext W w' from by
     rw [hzz]; exact wordOf_any sl S sb W (hse.ext hW) (HOK.out sl (List.mem_of_getElem? hsk)))
    have HX := Lib.hid (Blk.new wr 218 #[.int .i64 sl.num, .string sl.w])
    clear hsk hzz hs0 hs1 hinw hse
    go_wp2_with fail
    refine wp_region_noPanic ?_
    refine wp_region_held_drew (S := (fun w' => w'.cell? ⟨wr.heap.size, 0, none⟩ = some (.int .i64 sl.num) ∧ w'.cell? ⟨wr.heap.size, 1, none⟩ = some (.string sl.w))) (by kernel_rfl) ?_ (fun hHeld => ?_)
    · (try dsimp only); (first | exact ⟨HX.out.drew.cell 0, HX.out.drew.cell 1⟩ | exact ⟨HB4.out.cell 0, HB4.out.cell 1⟩ | exact ⟨(HB4.out.alloc _).cell 0, (HB4.out.alloc _).cell 1⟩ | exact ⟨HB6.out.cell 0, HB6.out.cell 1⟩ | exact ⟨(HB6.out.far (p := ⟨w.heap.size + 1 + 1, 1, none⟩) (Nat.ne_of_gt hl1) _).cell 0, (HB6.out.far (p := ⟨w.heap.size + 1 + 1, 1, none⟩) (Nat.ne_of_gt hl1) _).cell 1⟩)
    refine tk 0 (v := ?_) rfl ?_ ?_
    rotate_left
    · (intro w hSw; (try dsimp only at hSw); go_simp) <;> with_reducible rfl
    try simp only [Act.put, stz]
    refine tk 2 (v := ?_) rfl ?_ ?_
    rotate_left
    · (intro w hSw; (try dsimp only at hSw); go_simp) <;> with_reducible rfl
    try simp only [Act.put, stz]
    refine tk 3 (v := ?_) rfl ?_ ?_
    rotate_left
    · (intro w hSw; (try dsimp only at hSw); go_simp) <;> with_reducible rfl
    try simp only [Act.put, stz]
    refine wpAnyH_ready (rs := [1, 4]) (by kernel_rfl) (by simp) ?_
    refine AllReadyH.cons (o := _) rfl (fun K hK => ?_) ?_
    · go_simp
      refine hK.out _ _ ?_ (fun hNew => ?_)
      · (try dsimp only); (first | exact ⟨HX.out.drew.cell 0, HX.out.drew.cell 1⟩ | exact ⟨HB4.out.cell 0, HB4.out.cell 1⟩ | exact ⟨(HB4.out.alloc _).cell 0, (HB4.out.alloc _).cell 1⟩ | exact ⟨HB6.out.cell 0, HB6.out.cell 1⟩ | exact ⟨(HB6.out.far (p := ⟨w.heap.size + 1 + 1, 1, none⟩) (Nat.ne_of_gt hl1) _).cell 0, (HB6.out.far (p := ⟨w.heap.size + 1 + 1, 1, none⟩) (Nat.ne_of_gt hl1) _).cell 1⟩)
      clear hK K hHeld
      have hHeld := hNew
      clear hNew
      try simp only [Act.put, stz]
      refine wpAnyH_ready (rs := [4]) (by kernel_rfl) (by simp) ?_
      refine AllReadyH.cons (o := _) rfl (fun K hK => ?_) ?_
      · go_simp
        go_at_call 203; refine (HWO.out _ (((Ext.refl wr).alloc _).drew)).mono ?_; rintro e w4 ⟨rfl, hx4⟩
        have HX4 := Lib.hid (show Ext wr w4 from (((Ext.refl wr).alloc _).drew).trans' hx4)
        have HB4 := Lib.hid (HX.out.drew.ext hx4)
        have hob4 := hob.out.ext HX4.out
        have y0 := hob4.cell 0
        have y1 := hob4.cell 1
        have yl := hob4.lt
        clear hx4 hob4
        refine hK.out _ _ ?_ (fun hNew => ?_)
        · (try dsimp only); (first | exact ⟨HX.out.drew.cell 0, HX.out.drew.cell 1⟩ | exact ⟨HB4.out.cell 0, HB4.out.cell 1⟩ | exact ⟨(HB4.out.alloc _).cell 0, (HB4.out.alloc _).cell 1⟩ | exact ⟨HB6.out.cell 0, HB6.out.cell 1⟩ | exact ⟨(HB6.out.far (p := ⟨w.heap.size + 1 + 1, 1, none⟩) (Nat.ne_of_gt hl1) _).cell 0, (HB6.out.far (p := ⟨w.heap.size + 1 + 1, 1, none⟩) (Nat.ne_of_gt hl1) _).cell 1⟩)
        clear hK K hHeld
        have hHeld := hNew
        clear hNew
        try simp only [Act.put, stz]
        refine tk 5 (v := ?_) rfl ?_ ?_
        rotate_left
        · (intro w hSw; (try dsimp only at hSw); go_simp) <;> with_reducible rfl
        try simp only [Act.put, stz]
        refine wpAnyH_ready (rs := [6]) (by kernel_rfl) (by simp) ?_
        refine AllReadyH.cons (o := _) rfl (fun K hK => ?_) ?_
        · go_simp
          refine hK.out _ _ ?_ (fun hNew => ?_)
          · (try dsimp only); (first | exact ⟨HX.out.drew.cell 0, HX.out.drew.cell 1⟩ | exact ⟨HB4.out.cell 0, HB4.out.cell 1⟩ | exact ⟨(HB4.out.alloc _).cell 0, (HB4.out.alloc _).cell 1⟩ | exact ⟨HB6.out.cell 0, HB6.out.cell 1⟩ | exact ⟨(HB6.out.far (p := ⟨w.heap.size + 1 + 1, 1, none⟩) (Nat.ne_of_gt hl1) _).cell 0, (HB6.out.far (p := ⟨w.heap.size + 1 + 1, 1, none⟩) (Nat.ne_of_gt hl1) _).cell 1⟩)
          clear hK K hHeld
          have hHeld := hNew
          clear hNew
          try simp only [Act.put, stz]
          refine wpAnyH_ready (rs := [7]) (by kernel_rfl) (by simp) ?_
          refine AllReadyH.cons (o := _) rfl (fun K hK => ?_) ?_
          · refine step_appL (o := ⟨some 25, _, _, _, _, _⟩) (k := kTerm) (S := None) (T := None) (base := w.heap.size + 1 + 1 + 1) (xs := (p.slots.take k).map (termP S.W)) (ys := [⟨false, z⟩]) (by rfl) (.tmp 19) (.tmp 24) 24 (by rfl) i0 _ 24 Tryz.underlying24 hi0 hz0 hz1 hz2 (by rfl) (by rfl) ((hown.out.ext HX4.out).alloc _) _ 1 1 (by rfl) (ElemsK.one (k := kTerm) (x := ⟨false, z⟩) (l := [.bool false, .string z]) (Blk.new _ _ _) ⟨rfl, hzs⟩) (fun _ h => h.elim) (maxOf (by rw [HLK.out]; simp; omega)) (by rw [HLK.out]; omega) (by have := HX4.out.size; go_size) ?_
            intro v2 w6 hap
            obtain ⟨B2, n2, d2, rfl, hn2, hd21, hd22⟩ := hap.own.form2
            have HAP := Lib.hid hap
            have HX6 := Lib.hid ((hin.out.trans' (Inside.of_ext (HX4.out.alloc _))).beyond hap.below (by rw [HZ.out]; exact Nat.le_refl _))
            have HB6 := Lib.hid (hap.blk2 (HB4.out.alloc _) (fun e => by have := (hown.out.at_ _ e).2; omega))
            have hob2 := ((hob.out.ext HX4.out).alloc _).below hap.below (by omega)
            have z0 := hob2.cell 0
            have z1 := hob2.cell 1
            have zf := hob2.frozen 1
            have zl := hob2.lt
            have HOB := Lib.hid hob2
            clear hap hob2
            refine hK.out _ _ ?_ (fun hNew => ?_)
            · (try dsimp only); (first | exact ⟨HX.out.drew.cell 0, HX.out.drew.cell 1⟩ | exact ⟨HB4.out.cell 0, HB4.out.cell 1⟩ | exact ⟨(HB4.out.alloc _).cell 0, (HB4.out.alloc _).cell 1⟩ | exact ⟨HB6.out.cell 0, HB6.out.cell 1⟩ | exact ⟨(HB6.out.far (p := ⟨w.heap.size + 1 + 1, 1, none⟩) (Nat.ne_of_gt hl1) _).cell 0, (HB6.out.far (p := ⟨w.heap.size + 1 + 1, 1, none⟩) (Nat.ne_of_gt hl1) _).cell 1⟩)
            clear hK K hHeld
            have hHeld := hNew
            clear hNew
            try simp only [Act.put, stz]
            refine tk 8 (v := ?_) rfl ?_ ?_
            rotate_left
            · (intro w hSw; (try dsimp only at hSw); go_simp) <;> with_reducible rfl
            try simp only [Act.put, stz]
            refine wpAnyH_ready (rs := [9]) (by kernel_rfl) (by simp) ?_
            refine AllReadyH.cons (o := _) rfl (fun K hK => ?_) ?_
            · go_simp
              refine hK.out _ _ ?_ (fun hNew => ?_)
              · (try dsimp only); (first | exact ⟨HX.out.drew.cell 0, HX.out.drew.cell 1⟩ | exact ⟨HB4.out.cell 0, HB4.out.cell 1⟩ | exact ⟨(HB4.out.alloc _).cell 0, (HB4.out.alloc _).cell 1⟩ | exact ⟨HB6.out.cell 0, HB6.out.cell 1⟩ | exact ⟨(HB6.out.far (p := ⟨w.heap.size + 1 + 1, 1, none⟩) (Nat.ne_of_gt hl1) _).cell 0, (HB6.out.far (p := ⟨w.heap.size + 1 + 1, 1, none⟩) (Nat.ne_of_gt hl1) _).cell 1⟩)
              clear hK K hHeld
              have hHeld := hNew
              clear hNew
              try simp only [Act.put, stz]
              refine wpAnyH_done (by kernel_rfl) ?_ _
              refine NoPanic.normal ?_
              go_wp2
              go_roundw
              case rel =>
               refine ⟨k + 1, _, by omega, by go_num, Lib.hid (by simpa using HOB.out.set_ 1 (.slice B2 n2 d2)), Lib.hid (by rw [HT.out]; exact HAP.out.own.set (p := ⟨_, 1, none⟩) (Nat.lt_succ_self _) (fun h => h) _), Lib.hid ?_⟩
               exact HX6.out.trans' (Inside.set _ ⟨w.heap.size + 1 + 1, 1, none⟩ _ rfl)
              case measure => simp [intOf]; omega
            exact AllReadyH.nil
          exact AllReadyH.nil
        exact AllReadyH.nil
      exact AllReadyH.nil
    refine AllReadyH.cons (o := _) rfl (fun K hK => ?_) ?_
    · go_simp
      go_at_call 203; refine (HWO.out _ (((Ext.refl wr).alloc _).drew)).mono ?_; rintro e w4 ⟨rfl, hx4⟩
      have HX4 := Lib.hid (show Ext wr w4 from (((Ext.refl wr).alloc _).drew).trans' hx4)
      have HB4 := Lib.hid (HX.out.drew.ext hx4)
      have hob4 := hob.out.ext HX4.out
      have y0 := hob4.cell 0
      have y1 := hob4.cell 1
      have yl := hob4.lt
      clear hx4 hob4
      refine hK.out _ _ ?_ (fun hNew => ?_)
      · (try dsimp only); (first | exact ⟨HX.out.drew.cell 0, HX.out.drew.cell 1⟩ | exact ⟨HB4.out.cell 0, HB4.out.cell 1⟩ | exact ⟨(HB4.out.alloc _).cell 0, (HB4.out.alloc _).cell 1⟩ | exact ⟨HB6.out.cell 0, HB6.out.cell 1⟩ | exact ⟨(HB6.out.far (p := ⟨w.heap.size + 1 + 1, 1, none⟩) (Nat.ne_of_gt hl1) _).cell 0, (HB6.out.far (p := ⟨w.heap.size + 1 + 1, 1, none⟩) (Nat.ne_of_gt hl1) _).cell 1⟩)
      clear hK K hHeld
      have hHeld := hNew
      clear hNew
      try simp only [Act.put, stz]
      refine tk 5 (v := ?_) rfl ?_ ?_
      rotate_left
      · (intro w hSw; (try dsimp only at hSw); go_simp) <;> with_reducible rfl
      try simp only [Act.put, stz]
      refine wpAnyH_ready (rs := [1, 6]) (by kernel_rfl) (by simp) ?_
      refine AllReadyH.cons (o := _) rfl (fun K hK => ?_) ?_
      · go_simp
        refine hK.out _ _ ?_ (fun hNew => ?_)
        · (try dsimp only); (first | exact ⟨HX.out.drew.cell 0, HX.out.drew.cell 1⟩ | exact ⟨HB4.out.cell 0, HB4.out.cell 1⟩ | exact ⟨(HB4.out.alloc _).cell 0, (HB4.out.alloc _).cell 1⟩ | exact ⟨HB6.out.cell 0, HB6.out.cell 1⟩ | exact ⟨(HB6.out.far (p := ⟨w.heap.size + 1 + 1, 1, none⟩) (Nat.ne_of_gt hl1) _).cell 0, (HB6.out.far (p := ⟨w.heap.size + 1 + 1, 1, none⟩) (Nat.ne_of_gt hl1) _).cell 1⟩)
        clear hK K hHeld
        have hHeld := hNew
        clear hNew
        try simp only [Act.put, stz]
        refine wpAnyH_ready (rs := [6]) (by kernel_rfl) (by simp) ?_
        refine AllReadyH.cons (o := _) rfl (fun K hK => ?_) ?_
        · go_simp
          refine hK.out _ _ ?_ (fun hNew => ?_)
          · (try dsimp only); (first | exact ⟨HX.out.drew.cell 0, HX.out.drew.cell 1⟩ | exact ⟨HB4.out.cell 0, HB4.out.cell 1⟩ | exact ⟨(HB4.out.alloc _).cell 0, (HB4.out.alloc _).cell 1⟩ | exact ⟨HB6.out.cell 0, HB6.out.cell 1⟩ | exact ⟨(HB6.out.far (p := ⟨w.heap.size + 1 + 1, 1, none⟩) (Nat.ne_of_gt hl1) _).cell 0, (HB6.out.far (p := ⟨w.heap.size + 1 + 1, 1, none⟩) (Nat.ne_of_gt hl1) _).cell 1⟩)
          clear hK K hHeld
          have hHeld := hNew
          clear hNew
          try simp only [Act.put, stz]
          refine wpAnyH_ready (rs := [7]) (by kernel_rfl) (by simp) ?_
          refine AllReadyH.cons (o := _) rfl (fun K hK => ?_) ?_
          · refine step_appL (o := ⟨some 25, _, _, _, _, _⟩) (k := kTerm) (S := None) (T := None) (base := w.heap.size + 1 + 1 + 1) (xs := (p.slots.take k).map (termP S.W)) (ys := [⟨false, z⟩]) (by rfl) (.tmp 19) (.tmp 24) 24 (by rfl) i0 _ 24 Tryz.underlying24 hi0 hz0 hz1 hz2 (by rfl) (by rfl) ((hown.out.ext HX4.out).alloc _) _ 1 1 (by rfl) (ElemsK.one (k := kTerm) (x := ⟨false, z⟩) (l := [.bool false, .string z]) (Blk.new _ _ _) ⟨rfl, hzs⟩) (fun _ h => h.elim) (maxOf (by rw [HLK.out]; simp; omega)) (by rw [HLK.out]; omega) (by have := HX4.out.size; go_size) ?_
            intro v2 w6 hap
            obtain ⟨B2, n2, d2, rfl, hn2, hd21, hd22⟩ := hap.own.form2
            have HAP := Lib.hid hap
            have HX6 := Lib.hid ((hin.out.trans' (Inside.of_ext (HX4.out.alloc _))).beyond hap.below (by rw [HZ.out]; exact Nat.le_refl _))
            have HB6 := Lib.hid (hap.blk2 (HB4.out.alloc _) (fun e => by have := (hown.out.at_ _ e).2; omega))
            have hob2 := ((hob.out.ext HX4.out).alloc _).below hap.below (by omega)
            have z0 := hob2.cell 0
            have z1 := hob2.cell 1
            have zf := hob2.frozen 1
            have zl := hob2.lt
            have HOB := Lib.hid hob2
            clear hap hob2
            refine hK.out _ _ ?_ (fun hNew => ?_)
            · (try dsimp only); (first | exact ⟨HX.out.drew.cell 0, HX.out.drew.cell 1⟩ | exact ⟨HB4.out.cell 0, HB4.out.cell 1⟩ | exact ⟨(HB4.out.alloc _).cell 0, (HB4.out.alloc _).cell 1⟩ | exact ⟨HB6.out.cell 0, HB6.out.cell 1⟩ | exact ⟨(HB6.out.far (p := ⟨w.heap.size + 1 + 1, 1, none⟩) (Nat.ne_of_gt hl1) _).cell 0, (HB6.out.far (p := ⟨w.heap.size + 1 + 1, 1, none⟩) (Nat.ne_of_gt hl1) _).cell 1⟩)
            clear hK K hHeld
            have hHeld := hNew
            clear hNew
            try simp only [Act.put, stz]
            refine tk 8 (v := ?_) rfl ?_ ?_
            rotate_left
            · (intro w hSw; (try dsimp only at hSw); go_simp) <;> with_reducible rfl
            try simp only [Act.put, stz]
            refine wpAnyH_ready (rs := [9]) (by kernel_rfl) (by simp) ?_
            refine AllReadyH.cons (o := _) rfl (fun K hK => ?_) ?_
            · go_simp
              refine hK.out _ _ ?_ (fun hNew => ?_)
              · (try dsimp only); (first | exact ⟨HX.out.drew.cell 0, HX.out.drew.cell 1⟩ | exact ⟨HB4.out.cell 0, HB4.out.cell 1⟩ | exact ⟨(HB4.out.alloc _).cell 0, (HB4.out.alloc _).cell 1⟩ | exact ⟨HB6.out.cell 0, HB6.out.cell 1⟩ | exact ⟨(HB6.out.far (p := ⟨w.heap.size + 1 + 1, 1, none⟩) (Nat.ne_of_gt hl1) _).cell 0, (HB6.out.far (p := ⟨w.heap.size + 1 + 1, 1, none⟩) (Nat.ne_of_gt hl1) _).cell 1⟩)
              clear hK K hHeld
              have hHeld := hNew
              clear hNew
              try simp only [Act.put, stz]
              refine wpAnyH_done (by kernel_rfl) ?_ _
              refine NoPanic.normal ?_
              go_wp2
              go_roundw
              case rel =>
               refine ⟨k + 1, _, by omega, by go_num, Lib.hid (by simpa using HOB.out.set_ 1 (.slice B2 n2 d2)), Lib.hid (by rw [HT.out]; exact HAP.out.own.set (p := ⟨_, 1, none⟩) (Nat.lt_succ_self _) (fun h => h) _), Lib.hid ?_⟩
               exact HX6.out.trans' (Inside.set _ ⟨w.heap.size + 1 + 1, 1, none⟩ _ rfl)
              case measure => simp [intOf]; omega
            exact AllReadyH.nil
          exact AllReadyH.nil
        exact AllReadyH.nil
      refine AllReadyH.cons (o := _) rfl (fun K hK => ?_) ?_
      · go_simp
        refine hK.out _ _ ?_ (fun hNew => ?_)
        · (try dsimp only); (first | exact ⟨HX.out.drew.cell 0, HX.out.drew.cell 1⟩ | exact ⟨HB4.out.cell 0, HB4.out.cell 1⟩ | exact ⟨(HB4.out.alloc _).cell 0, (HB4.out.alloc _).cell 1⟩ | exact ⟨HB6.out.cell 0, HB6.out.cell 1⟩ | exact ⟨(HB6.out.far (p := ⟨w.heap.size + 1 + 1, 1, none⟩) (Nat.ne_of_gt hl1) _).cell 0, (HB6.out.far (p := ⟨w.heap.size + 1 + 1, 1, none⟩) (Nat.ne_of_gt hl1) _).cell 1⟩)
        clear hK K hHeld
        have hHeld := hNew
        clear hNew
        try simp only [Act.put, stz]
        refine wpAnyH_ready (rs := [1]) (by kernel_rfl) (by simp) ?_
        refine AllReadyH.cons (o := _) rfl (fun K hK => ?_) ?_
        · go_simp
          refine hK.out _ _ ?_ (fun hNew => ?_)
          · (try dsimp only); (first | exact ⟨HX.out.drew.cell 0, HX.out.drew.cell 1⟩ | exact ⟨HB4.out.cell 0, HB4.out.cell 1⟩ | exact ⟨(HB4.out.alloc _).cell 0, (HB4.out.alloc _).cell 1⟩ | exact ⟨HB6.out.cell 0, HB6.out.cell 1⟩ | exact ⟨(HB6.out.far (p := ⟨w.heap.size + 1 + 1, 1, none⟩) (Nat.ne_of_gt hl1) _).cell 0, (HB6.out.far (p := ⟨w.heap.size + 1 + 1, 1, none⟩) (Nat.ne_of_gt hl1) _).cell 1⟩)
          clear hK K hHeld
          have hHeld := hNew
          clear hNew
          try simp only [Act.put, stz]
          refine wpAnyH_ready (rs := [7]) (by kernel_rfl) (by simp) ?_
          refine AllReadyH.cons (o := _) rfl (fun K hK => ?_) ?_
          · refine step_appL (o := ⟨some 25, _, _, _, _, _⟩) (k := kTerm) (S := None) (T := None) (base := w.heap.size + 1 + 1 + 1) (xs := (p.slots.take k).map (termP S.W)) (ys := [⟨false, z⟩]) (by rfl) (.tmp 19) (.tmp 24) 24 (by rfl) i0 _ 24 Tryz.underlying24 hi0 hz0 hz1 hz2 (by rfl) (by rfl) ((hown.out.ext HX4.out).alloc _) _ 1 1 (by rfl) (ElemsK.one (k := kTerm) (x := ⟨false, z⟩) (l := [.bool false, .string z]) (Blk.new _ _ _) ⟨rfl, hzs⟩) (fun _ h => h.elim) (maxOf (by rw [HLK.out]; simp; omega)) (by rw [HLK.out]; omega) (by have := HX4.out.size; go_size) ?_
            intro v2 w6 hap
            obtain ⟨B2, n2, d2, rfl, hn2, hd21, hd22⟩ := hap.own.form2
            have HAP := Lib.hid hap
            have HX6 := Lib.hid ((hin.out.trans' (Inside.of_ext (HX4.out.alloc _))).beyond hap.below (by rw [HZ.out]; exact Nat.le_refl _))
            have HB6 := Lib.hid (hap.blk2 (HB4.out.alloc _) (fun e => by have := (hown.out.at_ _ e).2; omega))
            have hob2 := ((hob.out.ext HX4.out).alloc _).below hap.below (by omega)
            have z0 := hob2.cell 0
            have z1 := hob2.cell 1
            have zf := hob2.frozen 1
            have zl := hob2.lt
            have HOB := Lib.hid hob2
            clear hap hob2
            refine hK.out _ _ ?_ (fun hNew => ?_)
            · (try dsimp only); (first | exact ⟨HX.out.drew.cell 0, HX.out.drew.cell 1⟩ | exact ⟨HB4.out.cell 0, HB4.out.cell 1⟩ | exact ⟨(HB4.out.alloc _).cell 0, (HB4.out.alloc _).cell 1⟩ | exact ⟨HB6.out.cell 0, HB6.out.cell 1⟩ | exact ⟨(HB6.out.far (p := ⟨w.heap.size + 1 + 1, 1, none⟩) (Nat.ne_of_gt hl1) _).cell 0, (HB6.out.far (p := ⟨w.heap.size + 1 + 1, 1, none⟩) (Nat.ne_of_gt hl1) _).cell 1⟩)
            clear hK K hHeld
            have hHeld := hNew
            clear hNew
            try simp only [Act.put, stz]
            refine tk 8 (v := ?_) rfl ?_ ?_
            rotate_left
            · (intro w hSw; (try dsimp only at hSw); go_simp) <;> with_reducible rfl
            try simp only [Act.put, stz]
            refine wpAnyH_ready (rs := [9]) (by kernel_rfl) (by simp) ?_
            refine AllReadyH.cons (o := _) rfl (fun K hK => ?_) ?_
            · go_simp
              refine hK.out _ _ ?_ (fun hNew => ?_)
              · (try dsimp only); (first | exact ⟨HX.out.drew.cell 0, HX.out.drew.cell 1⟩ | exact ⟨HB4.out.cell 0, HB4.out.cell 1⟩ | exact ⟨(HB4.out.alloc _).cell 0, (HB4.out.alloc _).cell 1⟩ | exact ⟨HB6.out.cell 0, HB6.out.cell 1⟩ | exact ⟨(HB6.out.far (p := ⟨w.heap.size + 1 + 1, 1, none⟩) (Nat.ne_of_gt hl1) _).cell 0, (HB6.out.far (p := ⟨w.heap.size + 1 + 1, 1, none⟩) (Nat.ne_of_gt hl1) _).cell 1⟩)
              clear hK K hHeld
              have hHeld := hNew
              clear hNew
              try simp only [Act.put, stz]
              refine wpAnyH_done (by kernel_rfl) ?_ _
              refine NoPanic.normal ?_
              go_wp2
              go_roundw
              case rel =>
               refine ⟨k + 1, _, by omega, by go_num, Lib.hid (by simpa using HOB.out.set_ 1 (.slice B2 n2 d2)), Lib.hid (by rw [HT.out]; exact HAP.out.own.set (p := ⟨_, 1, none⟩) (Nat.lt_succ_self _) (fun h => h) _), Lib.hid ?_⟩
               exact HX6.out.trans' (Inside.set _ ⟨w.heap.size + 1 + 1, 1, none⟩ _ rfl)
              case measure => simp [intOf]; omega
            exact AllReadyH.nil
          exact AllReadyH.nil
        exact AllReadyH.nil
      exact AllReadyH.nil
    exact AllReadyH.nil
  · have HE := Lib.hid (show (p.slots.take k).map (termP S.W) = (factP S.W p).args from by rw [List.take_of_length_le (by omega), HAP0.out])
    have hb1 := hin.out.blk HB1.out (fun e => by omega)
    have r0 := hb1.cell 0
    have r1 := hb1.cell 1
    have rf0 := hb1.frozen 0
    have rf1 := hb1.frozen 1
    have hl0 := hb1.lt
    go_wp2
    refine bodyPost_ret (v := .agg #[.string p.n, .slice OA on oc]) (by simp [results, Tryz.results201, go_sem, r0, r1]) rfl ⟨⟨_, rfl, ?_⟩, ?_⟩
    · have h1 := hown.out.list (S' := From (w.heap.size + 1 + 1 + 1)) (fun _ h => h.elim) (fun _ h => h)
      rw [HE.out] at h1
      exact TermsR.imp h1 (fromLe (by omega)) (((Agree.refl _ _).setCell (notFrom (by show w.heap.size + 1 < _; omega)) _).setCell (notFrom (by show w.heap.size + 1 < _; omega)) _) (by go_size)
    · exact Ext.setNew (a := w) (Ext.setNew (hin.out.toExt HE0.out (fun i hi => by omega)) (by show _ ≤ w.heap.size + 1; omega) _) (by show _ ≤ w.heap.size + 1; omega) _

end Go.Proofs.YtfjdijakgjhieaaGreat
