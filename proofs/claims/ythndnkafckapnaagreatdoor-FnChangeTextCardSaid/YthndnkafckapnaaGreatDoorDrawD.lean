/- The walks of the draws: l10Fact. -/
import Derived.Test.YthndnkafckapnaaGreatDoorDrawC
namespace Go.Proofs.YthndnkafckapnaaGreatDoor
open Go.RowKit

def names8 : List ByteArray := [⟨#[101]⟩, ⟨#[101]⟩, ⟨#[101]⟩, ⟨#[112]⟩, ⟨#[112]⟩, ⟨#[113]⟩, ⟨#[122]⟩, ⟨#[104]⟩]
theorem names8_small : ∀ s ∈ names8, s.size ≤ 8 := by decide

theorem strs_at {w : World} {rb m g : Nat} {t : TypeId} (cs : Array Value) (ss : List ByteArray) (hcs : cs = (ss.map Value.string).toArray) (hg : g = w.heap.size) (hr : Rd w rb m) (hs : ∀ s ∈ ss, s.size ≤ 1000) (hl : ss.length ≤ 1000) (n : Nat) (hn : n = ss.length) :
    StrsR (fun b => b ≠ rb) (w.alloc (.cells cs t)) (.slice (some ⟨g, 0, none⟩) n n) ss := by
  subst hg
  exact strs_new cs ss hcs hr hs hl n hn

set_option maxRecDepth 100000 in
set_option maxHeartbeats 2000000 in
theorem l10Fact_any (rb m : Nat) (w : World) (hr : Rd w rb m) (hp : m + 7 ≤ 1000000) :
    Calls Tryz.prog 119 #[.pointer (some ⟨rb, 0, none⟩)] w fun e w' =>
      (∃ (a : GA) (v : Value), e = .returned (.agg #[.string a.n, v]) ∧ TermsR (From w.heap.size) w' v a.args ∧ a.n.size ≤ 8 ∧ tiny a.args) ∧ Rd w' rb (m + 7) ∧ Else rb w w' := by
  have hrl := hr.lt
  have HR := Lib.hid hr
  have HR1 := Lib.hid (hr.ext ((Ext.refl w).alloc (.cells #[.string ⟨#[]⟩, .slice none 0 0] 67)))
  have HB := Lib.hid (Blk.new w 67 #[.string ⟨#[]⟩, .slice none 0 0])
  clear hr
  go_enter Tryz.func119, Tryz.ntmps119
  go_wp2_with (fail)
  refine (of_any rb m _ names8 _ (strs_at _ names8 rfl (by simp) HR1.out (fun s hs => Nat.le_trans (names8_small s hs) (by omega)) (by simp [names8]) _ rfl) (by simp [names8]) (HR1.out.ext ((Ext.refl _).alloc _)) (by omega)).mono ?_
  rintro e w1 ⟨⟨s, hs, hs2, rfl⟩, hr1, he1⟩
  have hs8 := names8_small s hs
  have hb1 := ((HB.out.alloc _).else_ he1 (by omega))
  have HE1 := Lib.hid ((Else.of_ext (rb := rb) (((Ext.refl w).alloc _).alloc _)).trans' he1)
  have HR2 := Lib.hid hr1
  have HB1 := Lib.hid hb1
  clear hr1 he1 hb1 hs
  go_wp2_with (fail)
  refine (l10AtomNo_any rb (m + 1) s _ (by omega) HR2.out (by omega)).mono ?_
  rintro e w2 ⟨⟨v, ts, rfl, ht, hti⟩, hr2, he2⟩
  obtain ⟨A, c, rfl, hc1, hc2⟩ := SliceR.form ht
  have hb2 := HB1.out.else_ he2 (by omega)
  have q0 := hb2.cell 0
  have q1 := hb2.cell 1
  have f0 := hb2.frozen 0
  have f1 := hb2.frozen 1
  have hw2 := hb2.lt
  have hsz := HE1.out.size
  have hlt1 := HB1.out.lt
  have HT := Lib.hid ht
  have HR3 := Lib.hid hr2
  have HE2 := Lib.hid (HE1.out.trans' he2)
  clear ht hr2 he2 hb2
  go_wp2
  refine bodyPost_ret (v := .agg #[.string s, .slice A ts.length c]) (by simp [results, Tryz.results119, go_sem, q0, q1]) rfl ?_
  have hA : ∀ S : Nat → Prop, (¬ S w.heap.size) → Agree S w2 ((w2.setCell ⟨w.heap.size, 0, none⟩ (.string s)).setCell ⟨w.heap.size, 1, none⟩ (.slice A ts.length c)) := fun S hS => ((Agree.refl _ _).setCell hS _).setCell hS _
  refine ⟨⟨⟨s, ts⟩, _, rfl, ?_, hs8, hti⟩, HR3.out.keep (hA _ (by simp; omega)) (by go_size), ?_⟩
  · exact TermsR.imp (S := From w1.heap.size) (w := w2) HT.out (fromLe (by omega)) (hA _ (by simp; omega)) (by go_size)
  · refine ⟨HE2.out.os, HE2.out.tape, HE2.out.output, by have := HE2.out.size; go_size, fun k hk hne => ?_⟩
    exact (hA (fun b => b < w.heap.size) (by simp) k hk (Nat.lt_of_lt_of_le hk HE2.out.size)).trans (HE2.out.block k hk hne)

end Go.Proofs.YthndnkafckapnaaGreatDoor
