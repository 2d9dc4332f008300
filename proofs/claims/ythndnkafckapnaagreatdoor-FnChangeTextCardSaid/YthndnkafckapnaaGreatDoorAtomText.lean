/- The walk of the program's atomText. -/
import Derived.Test.YthndnkafckapnaaGreatDoorBuilder
import Derived.Test.YthndnkafckapnaaGreatDoorText
import Derived.Test.YthndnkafckapnaaGreatDoorPlain
namespace Go.Proofs.YthndnkafckapnaaGreatDoor
open Go.RowKit

theorem Builds.alloc {B b : Nat} {l : List UInt8} {w : World} (h : Builds B b l w) (o : Obj) : Builds B b l (w.alloc o) := by
  rcases h with ⟨hB, v, hb, hown, hne⟩ | ⟨hB, v, hb, hown, hne⟩
  · exact .inl ⟨hB, v, (Below.heap_alloc w o b (Array.getElem?_eq_some_iff.1 hb).1).trans hb, hown.alloc o, hne⟩
  · exact .inr ⟨hB, v, (Below.heap_alloc w o b (Array.getElem?_eq_some_iff.1 hb).1).trans hb, hown.alloc o, hne⟩
theorem Builds.lt {B b : Nat} {l : List UInt8} {w : World} (h : Builds B b l w) : b < w.heap.size := by
  rcases h with h | h
  · exact h.lt
  · exact h.lt
theorem Builds.le {B b : Nat} {l : List UInt8} {w : World} (h : Builds B b l w) : B ≤ b := by
  rcases h with h | h
  · exact h.1
  · exact h.1
theorem Builds.fresh (w : World) : Builds w.heap.size w.heap.size [] (w.alloc (.cells #[.pointer none, .slice none 0 0] 64)) := Lib.fresh_isBuilder _ _ w
theorem Kept.blk {b g : Nat} {t : TypeId} {cs : Array Value} {w w' : World} (h : Kept b w w') (hb : Blk w g t cs) (hg : g ≠ b) (ht : t ≠ 5) : Blk w' g t cs :=
  h g _ hb (fun e => hg (Option.some.inj e)) (fun c fz e => by injection e with _ e2 _; exact ht e2)

set_option maxRecDepth 100000 in
set_option maxHeartbeats 4000000 in
theorem atomText_any (a : GA) (v : Value) (w : World) {S : Nat → Prop} (hv : TermsR S w v a.args) (hw : wAtom a ≤ 4194304) :
    Calls Tryz.prog 38 #[.agg #[.string a.n, v]] w fun e w' => e = .returned (.string (strOf (atomL a))) ∧ Ext w w' := by
  obtain ⟨A, c, rfl, hc1, hc2⟩ := SliceR.form hv
  have HV := Lib.hid hv
  have HW := Lib.hid hw
  have hn : a.n.size ≤ 4194304 := by unfold wAtom at hw; omega
  clear hv hw
  have hbox : Blk (w.alloc (.cells #[.string a.n, .slice A a.args.length c] 67)) w.heap.size 67 #[.string a.n, .slice A a.args.length c] := Blk.new _ _ _
  have hb0 := Builds.fresh (w.alloc (.cells #[.string a.n, .slice A a.args.length c] 67))
  rw [World.size_alloc] at hb0
  have HBX := Lib.hid (hbox.alloc (.cells #[.pointer none, .slice none 0 0] 64))
  have HB0 := Lib.hid hb0
  clear hb0 hbox
  have tok : True := trivial
  go_enter Tryz.func38, Tryz.ntmps38
  go_wp2_with (first
    | (go_at_call 37; refine (writeString_any (w.heap.size + 1) (w.heap.size + 1) [] a.n _ HB0.out (by simp; omega) (by go_size)).mono ?_; rintro e w1 ⟨rfl, hb1, hz1, hk1⟩; have HB1 := Lib.hid hb1; have hx1 := hk1.blk HBX.out (by omega) (by decide); have e10 := hx1.cell 0; have e11 := hx1.cell 1; have HX1 := Lib.hid hx1; have hs1 := hz1.size; simp only [World.size_alloc] at hs1; clear hb1 hx1)
    | (go_at_call 80; have _t := tok; refine (writeByte_any (w.heap.size + 1) (w.heap.size + 1) _ 40 _ HB1.out (by simp; omega) (by omega)).mono ?_; clear tok _t; rintro e w2 ⟨rfl, hb2, hz2, hk2⟩; have HB2 := Lib.hid hb2; have hx2 := hk2.blk HX1.out (by omega) (by decide); have e20 := hx2.cell 0; have e21 := hx2.cell 1; have HX2 := Lib.hid hx2; have hs2 := hz2.size; clear hb2 hx2))
  have HE2 := Lib.hid (show Ext w w2 from (((Ext.refl w).alloc _).alloc _).trans ((hz1.mono (by omega)).trans (hz2.mono (by omega))))
  clear e10 e11 e20 e21 hk1 hk2 hz1 hz2
  go_loopw [13] (fun i wr => ∃ (k : Nat) (l : List UInt8), k ≤ a.args.length ∧ i = .int .i64 k ∧ Hid (l = a.n.data.toList ++ [40] ++ namesL (a.args.take k)) ∧ Hid (Builds (w.heap.size + 1) (w.heap.size + 1) l wr) ∧ Ext w wr ∧ w.heap.size + 1 < wr.heap.size) (fun i _ => a.args.length - (intOf i).toNat)
  case atStart => exact ⟨0, _, Nat.zero_le _, rfl, by show _ = _; rw [List.take_zero, namesL, List.append_nil]; rfl, HB2, HE2.out, by omega⟩
  case round =>
    obtain ⟨k, l, hk, rfl, hp, hb, hx, hsz⟩ := hrel
    have hlen : l.length ≤ 8388609 := by
      rw [hp.out]
      have h1 := namesL_len (a.args.take k)
      have h2 := wTerms_take a.args k
      have h3 := HW.out
      have h4 : a.n.data.toList.length = a.n.size := by simp
      unfold wAtom at h3
      simp only [List.length_append, List.length_cons, List.length_nil]; omega
    by_cases hlt : k < a.args.length
    · obtain ⟨b, off, x, rfl, hbb, hxk, hxs, hc0, hc1⟩ := TermsR.at_ (HV.out.ext hx) hlt
      have HK := Lib.hid (namesL_take hxk)
      have hxn : x.n.size ≤ 4194304 := by
        have h1 := wTerms_mem (List.mem_of_getElem? hxk)
        have h3 := HW.out
        unfold wAtom at h3; unfold wTerm at h1; omega
      clear hxk hxs
      have HBV := Lib.hid (Blk.new wr 125 #[.bool x.v, .string x.n])
      by_cases hk0 : k < 1
      · have hg : decide (0 < k) = false := decide_eq_false (by omega)
        go_wp2_with (go_at_call 37; refine (writeString_any (w.heap.size + 1) (w.heap.size + 1) l x.n _ (hb.out.alloc _) (by omega) (by go_size)).mono ?_; rintro e w3 ⟨rfl, hb3, hz3, hk3⟩; have HB3 := Lib.hid hb3; have hs3 := hz3.size; simp only [World.size_alloc] at hs3; clear hb3 hk3)
        go_roundw
        case rel =>
          refine ⟨k + 1, _, by omega, by go_num, ?_, HB3, (hx.alloc _).trans (hz3.mono (by omega)), by omega⟩
          show _ = _
          rw [hp.out, HK.out, if_pos (by omega), show k = 0 from by omega, List.take_zero, namesL, List.append_nil, List.nil_append]
        case measure => simp [intOf]; omega
      · have hg : decide (0 < k) = true := decide_eq_true (by omega)
        have tok2 : True := trivial
        go_wp2_with (first
          | (go_at_call 80; have _t := tok2; refine (writeByte_any (w.heap.size + 1) (w.heap.size + 1) l 44 _ (hb.out.alloc _) (by omega) (by go_size)).mono ?_; clear tok2 _t; rintro e w3 ⟨rfl, hb3, hz3, hk3⟩; have HB3 := Lib.hid hb3; have hv3 := hk3.blk HBV.out (by omega) (by decide); have e30 := hv3.cell 0; have e31 := hv3.cell 1; have hs3 := hz3.size; simp only [World.size_alloc] at hs3; clear hb3 hv3 hk3)
          | (go_at_call 37; refine (writeString_any (w.heap.size + 1) (w.heap.size + 1) _ x.n _ HB3.out (by simp; omega) (by omega)).mono ?_; rintro e w4 ⟨rfl, hb4, hz4, hk4⟩; have HB4 := Lib.hid hb4; have hs4 := hz4.size; clear hb4 hk4))
        go_roundw
        case rel =>
          refine ⟨k + 1, _, by omega, by go_num, ?_, HB4, ((hx.alloc _).trans (hz3.mono (by omega))).trans (hz4.mono (by omega)), by omega⟩
          show _ = _
          rw [hp.out, HK.out, if_neg (by omega)]
          simp only [List.append_assoc]
        case measure => simp [intOf]; omega
    · go_wp2_with (first
        | (go_at_call 80; refine (writeByte_any (w.heap.size + 1) (w.heap.size + 1) l 41 _ hb.out (by omega) (by omega)).mono ?_; rintro e w3 ⟨rfl, hb3, hz3, hk3⟩; have HB3 := Lib.hid hb3; have hs3 := hz3.size; clear hb3 hk3)
        | (go_at_call 39; refine (string_any (w.heap.size + 1) (w.heap.size + 1) _ _ HB3.out (by omega)).mono ?_; rintro e w4 ⟨rfl, hz4⟩))
      go_ret
      refine ⟨?_, (hx.trans (hz3.mono (by omega))).trans (hz4.mono (by omega))⟩
      refine Eq.trans ?_ (ret_str (a := strOf (l ++ [41])) ?_)
      · rfl
      · rw [hp.out, List.take_of_length_le (by omega)]; rfl

end Go.Proofs.YthndnkafckapnaaGreatDoor
