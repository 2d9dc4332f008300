/- Part of the texts of a proof; what they say stands at each theorem. -/
import Derived.Test.YtmihponoillihaaGreatDoorBas18
set_option linter.unusedSimpArgs false
set_option linter.unusedVariables false
namespace Go.Proofs.YtmihponoillihaaGreatDoor
open Go.RowKit
theorem change_info3 : (Tryz.prog.info? 32).map (fun i => (i.zero, i.size, i.bytes)) = some (some (.agg #[.slice none 0 0, .slice none 0 0]), 2, 48) := by kernel_rfl
structure CopyR (B : GB) (n0 n1 g : Nat) (Z : Nat → Prop) (a b h : Value) (hs : List GC) (w : World) : Prop where
 box : Blk w g 45 #[a, .int .i64 B.time, b, h]
 at_ : n0 ≤ g ∧ g < n1
 low : ∀ i, Z i → n0 ≤ i ∧ i < n1 ∧ i ≠ g
 rules : RulesR Z w a B.rules
 given : AtomsR Z w b B.given
 hist : OwnK kChange n1 32 (From n1) w h hs
 sz : n1 ≤ w.heap.size
theorem CopyR.ext {B : GB} {n0 n1 g : Nat} {Z : Nat → Prop} {a b h : Value} {hs : List GC} {w w' : World} (H : CopyR B n0 n1 g Z a b h hs w) (he : Ext w w') : CopyR B n0 n1 g Z a b h hs w' :=
 ⟨H.box.ext he, H.at_, H.low, H.rules.ext he, H.given.ext he, H.hist.ext he, Nat.le_trans H.sz he.size⟩
theorem CopyR.store {B : GB} {n0 n1 g : Nat} {Z : Nat → Prop} {a b h h' : Value} {hs : List GC} {x : GC} {w w' : World} (H : CopyR B n0 n1 g Z a b h hs w)
 (hap : Apped kChange n1 32 (From n1) w h (hs ++ [x]) h' w') : CopyR B n0 n1 g Z a b h' (hs ++ [x]) (w'.setCell ⟨g, 3, none⟩ h') := by
 have hA : Agree Z w (w'.setCell ⟨g, 3, none⟩ h') := fun i hi hlt => (Below.heap_setCell w' ⟨g, 3, none⟩ h' i (fun e => (H.low i hi).2.2 e)).trans (hap.below.block i (H.low i hi).2.1)
 have hs2 : w.heap.size ≤ (w'.setCell ⟨g, 3, none⟩ h').heap.size := by have := hap.below.size; simp [World.setCell]; exact this
 refine ⟨?_, H.at_, H.low, H.rules.impL (fun _ h _ => h) hA hs2, H.given.impL (fun _ h _ => h) hA hs2, hap.own.set (p := ⟨g, 3, none⟩) H.at_.2 (fun h => absurd H.at_.2 (Nat.not_lt.2 h)) h', Nat.le_trans H.sz hs2⟩; have := (H.box.below hap.below H.at_.2).set_ 3 h'; simpa using this
theorem CopyR.far {B : GB} {n0 n1 g : Nat} {Z : Nat → Prop} {a b h : Value} {hs : List GC} {w : World} (H : CopyR B n0 n1 g Z a b h hs w) {p : Addr} (hp : p.block < n0) (u : Value) : CopyR B n0 n1 g Z a b h hs (w.setCell p u) := by
 have hA : Agree Z w (w.setCell p u) := fun i hi hlt => Below.heap_setCell w p u i (fun e => by have := (H.low i hi).1; omega)
 have hs2 : w.heap.size ≤ (w.setCell p u).heap.size := by simp [World.setCell]
 have h1 := H.at_; exact ⟨H.box.far (fun e => by omega) u, H.at_, H.low, H.rules.impL (fun _ h _ => h) hA hs2, H.given.impL (fun _ h _ => h) hA hs2, H.hist.set (p := p) (by omega) (fun h => by have h' : n1 ≤ p.block := h; omega) u, Nat.le_trans H.sz hs2⟩
theorem CopyR.mono {B : GB} {n0 n1 g : Nat} {Z : Nat → Prop} {a b h : Value} {hs : List GC} {w : World} (H : CopyR B n0 n1 g Z a b h hs w) {m : Nat} (hm : m ≤ n0) : CopyR B m n1 g Z a b h hs w :=
 ⟨H.box, ⟨Nat.le_trans hm H.at_.1, H.at_.2⟩, fun i hi => ⟨Nat.le_trans hm (H.low i hi).1, (H.low i hi).2⟩, H.rules, H.given, H.hist, H.sz⟩
theorem copy_out {B : GB} {W w : World} {g : Nat} {a b : Value} {cs : Array Value} {Z1 Z2 : Nat → Prop} (hb : Blk w g 45 cs) (hcs : cs.size = 4) (hx : Ext W w) (hg : W.heap.size ≤ g)
 (h1 : RulesR Z1 w a B.rules) (h2 : AtomsR Z2 w b B.given) (hz1 : ∀ i, Z1 i → W.heap.size ≤ i ∧ i < w.heap.size ∧ i ≠ g) (hz2 : ∀ i, Z2 i → W.heap.size ≤ i ∧ i < w.heap.size ∧ i ≠ g) :
 (∃ Z', CopyR B W.heap.size w.heap.size g Z' a b (.slice none 0 0) [] ((((w.setCell ⟨g, 0, none⟩ a).setCell ⟨g, 1, none⟩ (.int .i64 B.time)).setCell ⟨g, 2, none⟩ b).setCell ⟨g, 3, none⟩ (.slice none 0 0))) ∧
 Ext W ((((w.setCell ⟨g, 0, none⟩ a).setCell ⟨g, 1, none⟩ (.int .i64 B.time)).setCell ⟨g, 2, none⟩ b).setCell ⟨g, 3, none⟩ (.slice none 0 0)) := by
 have hA : ∀ (Z : Nat → Prop), (∀ i, Z i → i ≠ g) → Agree Z w ((((w.setCell ⟨g, 0, none⟩ a).setCell ⟨g, 1, none⟩ (.int .i64 B.time)).setCell ⟨g, 2, none⟩ b).setCell ⟨g, 3, none⟩ (.slice none 0 0)) := fun Z hz =>
  ((((Agree.refl _ _).setCell (fun h => hz _ h rfl) _).setCell (fun h => hz _ h rfl) _).setCell (fun h => hz _ h rfl) _).setCell (fun h => hz _ h rfl) _
 refine ⟨⟨fun i => W.heap.size ≤ i ∧ i < w.heap.size ∧ i ≠ g, ?_, ⟨hg, hb.lt⟩, fun _ h => h, ?_, ?_, OwnK.nil, by simp [World.setCell]⟩, Ext.setNew (Ext.setNew (Ext.setNew (Ext.setNew hx hg _) hg _) hg _) hg _⟩
 · have h := (((hb.set_ 0 a).set_ 1 (.int .i64 B.time)).set_ 2 b).set_ 3 (.slice none 0 0)
   obtain ⟨l⟩ := cs
   rcases l with _ | ⟨c0, _ | ⟨c1, _ | ⟨c2, _ | ⟨c3, _ | ⟨c4, l⟩⟩⟩⟩⟩ <;> simp at hcs
   simpa using h
 · exact h1.impL (fun i h _ => hz1 i h) (hA _ (fun i h => (hz1 i h).2.2)) (by simp [World.setCell])
 exact h2.impL (fun i h _ => hz2 i h) (hA _ (fun i h => (hz2 i h).2.2)) (by simp [World.setCell])
theorem copy_new {B : GB} {W w : World} {a b : Value} {Z1 Z2 : Nat → Prop} (hx : Ext W w) (h1 : RulesR Z1 w a B.rules) (h2 : AtomsR Z2 w b B.given) (hz1 : ∀ i, Z1 i → W.heap.size ≤ i ∧ i < w.heap.size) (hz2 : ∀ i, Z2 i → W.heap.size ≤ i ∧ i < w.heap.size) :
 (∃ Z' n1, CopyR B W.heap.size n1 w.heap.size Z' a b (.slice none 0 0) [] (w.alloc (.cells #[a, .int .i64 B.time, b, .slice none 0 0] 45))) ∧ Ext W (w.alloc (.cells #[a, .int .i64 B.time, b, .slice none 0 0] 45)) := by
 refine ⟨⟨fun i => W.heap.size ≤ i ∧ i < w.heap.size, w.heap.size + 1, Blk.new _ _ _, ⟨hx.size, Nat.lt_succ_self _⟩, fun i h => ⟨h.1, by omega, by omega⟩, ?_, ?_, OwnK.nil, by simp⟩, hx.alloc _⟩
 · exact (ListK.sub (k := kRule) h1 (fun i h => hz1 i h)).ext ((Ext.refl _).alloc _)
 exact (AtomsR.sub h2 (fun i h => hz2 i h)).ext ((Ext.refl _).alloc _)
set_option maxRecDepth 100000 in
set_option maxHeartbeats 8000000 in
theorem l7Copy_any (B : GB) (v : Value) (w : World) {S : Nat → Prop} (hv : BaseR S w v B) (hB : LiteB B) :
 Calls Tryz.prog 208 #[v] w fun e w' => (∃ n1 g Z a b h, e = .returned (.agg #[a, .int .i64 B.time, b, h]) ∧ CopyR B w.heap.size n1 g Z a b h B.hist w') ∧ Ext w w' := by
 obtain ⟨va, vb, vc, rfl, hr, hgv, hh⟩ := hv; obtain ⟨A1, c1, rfl, _, _⟩ := SliceR.form hr; obtain ⟨A2, c2, rfl, _, _⟩ := SliceR.form hgv; obtain ⟨A3, c3, rfl, _, _⟩ := SliceR.form hh; obtain ⟨i0, hi0, hz0, hz1, hz2⟩ := info_parts change_info3
 obtain ⟨W, hW⟩ : ∃ W, W = (w.alloc (.cells #[.slice A1 B.rules.length c1, .int .i64 B.time, .slice A2 B.given.length c2, .slice A3 B.hist.length c3] 45)).alloc (.cells #[.slice none 0 0, .int .i64 0, .slice none 0 0, .slice none 0 0] 45) := ⟨_, rfl⟩
 have HB1 := Lib.hid (show Blk W w.heap.size 45 #[.slice A1 B.rules.length c1, .int .i64 B.time, .slice A2 B.given.length c2, .slice A3 B.hist.length c3] from by rw [hW]; exact (Blk.new _ _ _).alloc _); have HB2 := Lib.hid (show Blk W (w.heap.size + 1) 45 #[.slice none 0 0, .int .i64 0, .slice none 0 0, .slice none 0 0] from by rw [hW]; exact Blk.at_new (by simp)); have HX := Lib.hid (show Ext w W from by rw [hW]; exact ((Ext.refl _).alloc _).alloc _); have HZW := Lib.hid (show W.heap.size = w.heap.size + 1 + 1 from by rw [hW]; simp)
 have HRU := Lib.hid (fun (W' : World) (hW' : Ext W W') => l7Rules_any _ B.rules W' (hr.ext (HX.out.trans' hW')) (by have := hB.rules.1; omega) (fun r hr' => by
  have h := hB.rules.2 r hr'
  exact ⟨by omega, by omega, fun p hp => by have := h.2.2 p hp; omega⟩))
 have HGV := Lib.hid (fun (W' : World) (hW' : Ext W W') => l3Copy_any _ B.given W' (hgv.ext (HX.out.trans' hW')) (by have := hB.given.1; omega) (fun x hx => by have := wAtom_args x; have := hB.given.2 x hx; omega)); have HHI := Lib.hid (hh.ext HX.out); have HLH := Lib.hid hB.hist.2; have hhl := hB.hist.1; have p0 := HB1.out.cell 0; have p1 := HB1.out.cell 1; have p2 := HB1.out.cell 2; have pl := HB1.out.lt
 have HSV := Lib.hid (fun (W' : World) (hW' : Ext W W') => (show W'.cell? ⟨w.heap.size, 0, none⟩ = some (.slice A1 B.rules.length c1) ∧ W'.cell? ⟨w.heap.size, 1, none⟩ = some (.int .i64 B.time) ∧ W'.cell? ⟨w.heap.size, 2, none⟩ = some (.slice A2 B.given.length c2) from
  ⟨(HB1.out.ext hW').cell 0, (HB1.out.ext hW').cell 1, (HB1.out.ext hW').cell 2⟩))
 clear hr hgv hh
 go_enter Tryz.func208, Tryz.ntmps208
 go_upto_region 1 with fail
 rw [← hW]; clear hW
 go_cut [3] (fun s wx => ∃ (g n1 : Nat) (a b : Value) (Z : Nat → Prop), s = .pointer (some ⟨g, 0, none⟩) ∧ Hid (CopyR B W.heap.size n1 g Z a b (.slice none 0 0) [] wx) ∧ Hid (Ext W wx))
 case first =>
  go_region_held3 (fun W' => W'.cell? ⟨w.heap.size, 0, none⟩ = some (.slice A1 B.rules.length c1) ∧ W'.cell? ⟨w.heap.size, 1, none⟩ = some (.int .i64 B.time) ∧ W'.cell? ⟨w.heap.size, 2, none⟩ = some (.slice A2 B.given.length c2))
   (first | exact HSV.out _ (Ext.setNew (Ext.setNew (Ext.setNew (Ext.setNew HX2.out (Nat.le_refl _) _) (Nat.le_refl _) _) (Nat.le_refl _) _) (Nat.le_refl _) _) | exact HSV.out _ (Ext.setNew (Ext.setNew (Ext.setNew (Ext.setNew HX2.out HX1.out.size _) HX1.out.size _) HX1.out.size _) HX1.out.size _) | exact HSV.out _ (Ext.setNew (Ext.setNew (Ext.setNew (Ext.setNew (HX2.out.alloc _) HX2.out.size _) HX2.out.size _) HX2.out.size _) HX2.out.size _) | exact HSV.out _ (HX2.out.alloc _) | exact HSV.out _ HX2.out | exact HSV.out _ (HX1.out.alloc _) | exact HSV.out _ HX1.out | exact HSV.out _ ((Ext.refl W).alloc _).drew | exact HSV.out _ (Ext.refl W).drew)
   (first
    | (go_at_call 70
       first
        | (refine (HRU.out _ ((Ext.refl W).alloc _).drew).mono ?_; rintro e w1 ⟨⟨v1, rfl, hv1⟩, hx1⟩
           have HX1 := Lib.hid (((Ext.refl W).alloc _).drew.trans' hx1); have HBX := Lib.hid ((Blk.drew (Blk.new W 45 #[.slice none 0 0, .int .i64 0, .slice none 0 0, .slice none 0 0])).ext hx1); obtain ⟨R1, r1, rfl, _, _⟩ := SliceR.form hv1; have HV1 := Lib.hid (show RulesR (fun i => W.heap.size + 1 ≤ i ∧ i < w1.heap.size) w1 (.slice R1 B.rules.length r1) B.rules from (ListK.low (k := kRule) hv1).sub (fun i h => ⟨Nat.le_trans (Nat.le_of_eq (by show W.heap.size + 1 = (W.alloc _).heap.size; simp)) h.1, h.2⟩))
           clear hv1 hx1)
        | (refine (HRU.out _ (Ext.refl W).drew).mono ?_; rintro e w1 ⟨⟨v1, rfl, hv1⟩, hx1⟩
           have HX1 := Lib.hid ((Ext.refl W).drew.trans' hx1); obtain ⟨R1, r1, rfl, _, _⟩ := SliceR.form hv1; have HV1 := Lib.hid (show RulesR (fun i => W.heap.size ≤ i ∧ i < w1.heap.size) w1 (.slice R1 B.rules.length r1) B.rules from (ListK.low (k := kRule) hv1).sub (fun i h => ⟨h.1, h.2⟩))
           clear hv1 hx1))
    | (go_at_call 168
       first
        | (refine (HGV.out _ (HX1.out.alloc _)).mono ?_; rintro e w2 ⟨⟨v2, rfl, hv2⟩, hx2⟩
           have HX2 := Lib.hid ((HX1.out.alloc _).trans' hx2); have HBX := Lib.hid ((Blk.new w1 45 #[.slice none 0 0, .int .i64 0, .slice none 0 0, .slice none 0 0]).ext hx2); have y0 := HBX.out.cell 0; have y1 := HBX.out.cell 1; have y2 := HBX.out.cell 2; have y3 := HBX.out.cell 3; have yf0 := HBX.out.frozen 0; have yf1 := HBX.out.frozen 1; have yf2 := HBX.out.frozen 2; have yf3 := HBX.out.frozen 3; have yl := HBX.out.lt; obtain ⟨R2, r2, rfl, _, _⟩ := SliceR.form hv2; have HV2 := Lib.hid (show AtomsR (fun i => w1.heap.size + 1 ≤ i ∧ i < w2.heap.size) w2 (.slice R2 B.given.length r2) B.given from AtomsR.sub (ListK.low (k := kAtom) hv2) (fun i h => ⟨Nat.le_trans (Nat.le_of_eq (by simp)) h.1, h.2⟩)); have HR2 := Lib.hid (HV1.out.ext ((Ext.refl w1).alloc _ |>.trans' hx2)); have hs12 : w1.heap.size < w2.heap.size := Nat.lt_of_lt_of_le (by simp) hx2.size
           clear hv2 hx2)
        | (refine (HGV.out _ HX1.out).mono ?_; rintro e w2 ⟨⟨v2, rfl, hv2⟩, hx2⟩
           have HX2 := Lib.hid (HX1.out.trans' hx2); have hb1 := HBX.out.lt; have HBY := Lib.hid (HBX.out.ext hx2); have y0 := HBY.out.cell 0; have y1 := HBY.out.cell 1; have y2 := HBY.out.cell 2; have y3 := HBY.out.cell 3; have yf0 := HBY.out.frozen 0; have yf1 := HBY.out.frozen 1; have yf2 := HBY.out.frozen 2; have yf3 := HBY.out.frozen 3; have yl := HBY.out.lt; obtain ⟨R2, r2, rfl, _, _⟩ := SliceR.form hv2; have HV2 := Lib.hid (show AtomsR (fun i => w1.heap.size ≤ i ∧ i < w2.heap.size) w2 (.slice R2 B.given.length r2) B.given from AtomsR.sub (ListK.low (k := kAtom) hv2) (fun i h => ⟨h.1, h.2⟩)); have HR2 := Lib.hid (HV1.out.ext hx2); have hs12 := hx2.size
           clear hv2 hx2)
        | (refine (HGV.out _ HX1.out).mono ?_; rintro e w2 ⟨⟨v2, rfl, hv2⟩, hx2⟩
           have HX2 := Lib.hid (HX1.out.trans' hx2); obtain ⟨R2, r2, rfl, _, _⟩ := SliceR.form hv2; have HV2 := Lib.hid (show AtomsR (fun i => w1.heap.size ≤ i ∧ i < w2.heap.size) w2 (.slice R2 B.given.length r2) B.given from AtomsR.sub (ListK.low (k := kAtom) hv2) (fun i h => ⟨h.1, h.2⟩)); have HR2 := Lib.hid (HV1.out.ext hx2); have hs12 := hx2.size
           clear hv2 hx2)))
  all_goals go_wp2_with fail
  all_goals
   have hs1 := HX1.out.size
   first
    | (have h := copy_new (B := B) HX2.out HR2.out HV2.out (fun i h => by omega) (fun i h => by omega)
       obtain ⟨⟨Z, nn, h1⟩, h2⟩ := h
       go_meet
       exact ⟨_, _, _, _, _, rfl, Lib.hid h1, Lib.hid h2⟩)
    | (have h := copy_out (B := B) HBY.out rfl HX2.out (Nat.le_refl _) HR2.out HV2.out (fun i h => by omega) (fun i h => by omega)
       obtain ⟨⟨Z, h1⟩, h2⟩ := h
       go_meet
       exact ⟨_, _, _, _, _, rfl, Lib.hid h1, Lib.hid h2⟩)
    | (have h := copy_out (B := B) HBX.out rfl HX2.out hs1 HR2.out HV2.out (fun i h => by omega) (fun i h => by omega)
       obtain ⟨⟨Z, h1⟩, h2⟩ := h
       go_meet
       exact ⟨_, _, _, _, _, rfl, Lib.hid h1, Lib.hid h2⟩)
 case rest =>
  rename World => wc
  have hzW := HZW.out; obtain ⟨g, n1, a, b, Z, rfl, hc, hxc⟩ := hcut; obtain ⟨RA, ra, rfl, _, _⟩ := SliceR.form hc.out.rules; obtain ⟨RB, rb, rfl, _, _⟩ := SliceR.form hc.out.given; have hgW : W.heap.size ≤ g := hc.out.at_.1; have hgn := hc.out.at_.2; clear p0 p1 p2 pl
  go_wp2_with fail
  go_loopw [4] (fun i wr => ∃ (k : Nat) (h : Value), k ≤ B.hist.length ∧ i = .int .i64 k ∧ Hid (CopyR B W.heap.size n1 g Z (.slice RA B.rules.length ra) (.slice RB B.given.length rb) h (B.hist.take k) wr) ∧ Hid (Ext W wr)) (fun i _ => B.hist.length - (intOf i).toNat)
  case atStart => exact ⟨0, _, Nat.zero_le _, rfl, hc, hxc⟩
  case round =>
   obtain ⟨k, h, hk, rfl, hcr, hxr⟩ := hrel; have hk0 : (0 : Int) ≤ (k : Int) := Int.natCast_nonneg _; have q3 := (HB1.out.ext hxr.out).cell 3; have ql := (HB1.out.ext hxr.out).lt
   by_cases hlt : k < B.hist.length
   · have hk1 : (k : Int) < (B.hist.length : Int) := by omega
     obtain ⟨bh, oh, x, vx, ux, rfl, hbh, hxk, hxt, hut, d0, d1⟩ := ChangesR.at_ HHI.out hlt; obtain ⟨X, cx, rfl, _, _⟩ := SliceR.form hxt; obtain ⟨Y, cy, rfl, _, _⟩ := SliceR.form hut; have hlx := HLH.out x (List.mem_of_getElem? hxk); have HTK := Lib.hid (show B.hist.take (k + 1) = B.hist.take k ++ [x] from by rw [List.take_add_one, hxk]; rfl); have HLC := Lib.hid (fun (W' : World) (hW' : Ext W W') => l7Change_any x _ _ W' (hxt.ext hW') (hut.ext hW') ⟨by have := hlx.1.1; omega, hlx.1.2⟩ ⟨by have := hlx.2.1; omega, hlx.2.2⟩)
     have HSW := Lib.hid (fun (W' : World) (hW' : Ext W W') => (show W'.cell? ⟨w.heap.size, 3, none⟩ = some (.slice (some ⟨bh, oh, none⟩) B.hist.length c3) ∧ W'.cell? ⟨bh, oh + k * 2, none⟩ = some (.slice X x.comes.length cx) ∧ W'.cell? ⟨bh, oh + k * 2 + 1, none⟩ = some (.slice Y x.goes.length cy) from
      ⟨(HB1.out.ext hW').cell 3, (hW'.cells.1 bh _ hbh).trans d0, (hW'.cells.1 bh _ hbh).trans d1⟩))
     obtain ⟨H, nh, ch, rfl, hnh, hch1, hch2⟩ := hcr.out.hist.form2; have g3 := hcr.out.box.cell 3; have gl := hcr.out.box.lt; have hbh' := Nat.lt_of_lt_of_le hbh hxr.out.size; have HKL := Lib.hid (show (B.hist.take k).length = k from by rw [List.length_take]; omega); have HLOW := Lib.hid (show ∀ j, (Value.slice H nh ch).ownBlock = some j → j < wr.heap.size from fun j hj => (hcr.out.hist.at_ j hj).2); have hn1w := hcr.out.sz; clear hxk hxt hut d0 d1 hlx
     go_wp2_with fail
     refine wp_region_noPanic ?_; refine wp_region_held_drew (S := (fun W' => W'.cell? ⟨w.heap.size, 3, none⟩ = some (.slice (some ⟨bh, oh, none⟩) B.hist.length c3) ∧ W'.cell? ⟨bh, oh + k * 2, none⟩ = some (.slice X x.comes.length cx) ∧ W'.cell? ⟨bh, oh + k * 2 + 1, none⟩ = some (.slice Y x.goes.length cy))) (by kernel_rfl) ?_ (fun hHeld => ?_)
     · (try dsimp only); (first | exact HSW.out _ (Ext.setNew HX4.out hgW _) | exact HSW.out _ HX4.out | exact HSW.out _ (HX3.out.alloc _) | exact HSW.out _ HX3.out | exact HSW.out _ hxr.out.drew)
     refine tk 0 (v := ?_) rfl ?_ ?_; rotate_left; ((intro w hSw; (try dsimp only at hSw); go_simp) <;> with_reducible rfl); (try simp only [Act.put, stz])
     refine tk 2 (v := ?_) rfl ?_ ?_; rotate_left; ((intro w hSw; (try dsimp only at hSw); go_simp) <;> with_reducible rfl); (try simp only [Act.put, stz])
     refine tk 3 (v := ?_) rfl ?_ ?_; rotate_left; ((intro w hSw; (try dsimp only at hSw); go_simp) <;> with_reducible rfl); (try simp only [Act.put, stz])
     refine tk 4 (v := ?_) rfl ?_ ?_; rotate_left; ((intro w hSw; (try dsimp only at hSw); go_simp) <;> with_reducible rfl); (try simp only [Act.put, stz])
     refine tk 5 (v := ?_) rfl ?_ ?_; rotate_left; ((intro w hSw; (try dsimp only at hSw); go_simp) <;> with_reducible rfl); (try simp only [Act.put, stz])
     refine tk 6 (v := ?_) rfl ?_ ?_; rotate_left; ((intro w hSw; (try dsimp only at hSw); go_simp) <;> with_reducible rfl); (try simp only [Act.put, stz])
     refine wpAnyH_ready (rs := [1, 7]) (by kernel_rfl) (by simp) ?_; refine AllReadyH.cons (o := _) rfl (fun K hK => ?_) ?_
     · go_simp
       refine hK.out _ _ ?_ (fun hNew => ?_)
       · (try dsimp only); (first | exact HSW.out _ (Ext.setNew HX4.out hgW _) | exact HSW.out _ HX4.out | exact HSW.out _ (HX3.out.alloc _) | exact HSW.out _ HX3.out | exact HSW.out _ hxr.out.drew)
       clear hK K hHeld; have hHeld := hNew; clear hNew
       try simp only [Act.put, stz]
       refine wpAnyH_ready (rs := [7]) (by kernel_rfl) (by simp) ?_; refine AllReadyH.cons (o := _) rfl (fun K hK => ?_) ?_
       · go_simp
         go_at_call 204; refine (HLC.out _ hxr.out.drew).mono ?_; rintro e w3 ⟨⟨x3, y3, rfl, hx3', hy3'⟩, hx3⟩
         obtain ⟨O1, o1, rfl, _, _⟩ := SliceR.form hx3'; obtain ⟨O2, o2, rfl, _, _⟩ := SliceR.form hy3'; have HX3 := Lib.hid (hxr.out.drew.trans' hx3); have HE3 := Lib.hid (show Ext wr w3 from (Ext.refl wr).drew.trans' hx3); have HO1 := Lib.hid (show AtomsR (From wr.heap.size) w3 (.slice O1 x.comes.length o1) x.comes from hx3'); have HO2 := Lib.hid (show AtomsR (From wr.heap.size) w3 (.slice O2 x.goes.length o2) x.goes from hy3'); have HC3 := Lib.hid (hcr.out.ext HE3.out); have y3 := HC3.out.box.cell 3; have yl := HC3.out.box.lt; clear hx3' hy3' hx3; refine hK.out _ _ ?_ (fun hNew => ?_)
         · (try dsimp only); (first | exact HSW.out _ (Ext.setNew HX4.out hgW _) | exact HSW.out _ HX4.out | exact HSW.out _ (HX3.out.alloc _) | exact HSW.out _ HX3.out | exact HSW.out _ hxr.out.drew)
         clear hK K hHeld; have hHeld := hNew; clear hNew
         try simp only [Act.put, stz]
         refine wpAnyH_ready (rs := [8]) (by kernel_rfl) (by simp) ?_; refine AllReadyH.cons (o := _) rfl (fun K hK => ?_) ?_
         · go_simp
           refine hK.out _ _ ?_ (fun hNew => ?_)
           · (try dsimp only); (first | exact HSW.out _ (Ext.setNew HX4.out hgW _) | exact HSW.out _ HX4.out | exact HSW.out _ (HX3.out.alloc _) | exact HSW.out _ HX3.out | exact HSW.out _ hxr.out.drew)
           clear hK K hHeld; have hHeld := hNew; clear hNew
           try simp only [Act.put, stz]
           refine wpAnyH_ready (rs := [9]) (by kernel_rfl) (by simp) ?_; refine AllReadyH.cons (o := _) rfl (fun K hK => ?_) ?_
           · refine step_appK (o := ⟨some 30, _, _, _, _, _⟩) (k := kChange) (S := From n1) (T := From wr.heap.size) (base := n1) (xs := B.hist.take k) (ys := [x]) (by rfl) (.tmp 22) (.tmp 29) 24 (by rfl) i0 _ 48 Tryz.underlying24 hi0 hz0 hz1 hz2 (by rfl) (by rfl) (HC3.out.hist.alloc _) _ 1 1 (by rfl) (ElemsK.one (k := kChange) (x := x) (l := [.slice O1 x.comes.length o1, .slice O2 x.goes.length o2]) (Blk.new _ _ _) ⟨_, _, rfl, HO1.out.ext ((Ext.refl _).alloc _), HO2.out.ext ((Ext.refl _).alloc _)⟩) (fun b hb _ => Nat.le_trans hn1w hb) (fun g' hg' hT => absurd (HLOW.out g' hg') (Nat.not_lt.2 hT)) (maxOf (by rw [HKL.out]; omega)) (by rw [HKL.out]; omega) (by have := HE3.out.size; go_size) ?_
             intro v4 w4 hap; obtain ⟨A4, n4, c4, rfl, hn4, h41, h42⟩ := hap.own.form2; have HAP := Lib.hid hap; have HX4 := Lib.hid (hap.toExt (w0 := W) (HX3.out.alloc _) (by omega)); have HQ4 := Lib.hid ((HC3.out.box.alloc _).below hap.below hgn); have z3 := HQ4.out.cell 3; have zf := HQ4.out.frozen 3; have zl := HQ4.out.lt; clear hap; refine hK.out _ _ ?_ (fun hNew => ?_)
             · (try dsimp only); (first | exact HSW.out _ (Ext.setNew HX4.out hgW _) | exact HSW.out _ HX4.out | exact HSW.out _ (HX3.out.alloc _) | exact HSW.out _ HX3.out | exact HSW.out _ hxr.out.drew)
             clear hK K hHeld; have hHeld := hNew; clear hNew
             try simp only [Act.put, stz]
             refine tk 10 (v := ?_) rfl ?_ ?_; rotate_left; ((intro w hSw; (try dsimp only at hSw); go_simp) <;> with_reducible rfl); (try simp only [Act.put, stz])
             refine wpAnyH_ready (rs := [11]) (by kernel_rfl) (by simp) ?_; refine AllReadyH.cons (o := _) rfl (fun K hK => ?_) ?_
             · go_simp
               refine hK.out _ _ ?_ (fun hNew => ?_)
               · (try dsimp only); (first | exact HSW.out _ (Ext.setNew HX4.out hgW _) | exact HSW.out _ HX4.out | exact HSW.out _ (HX3.out.alloc _) | exact HSW.out _ HX3.out | exact HSW.out _ hxr.out.drew)
               clear hK K hHeld; have hHeld := hNew; clear hNew
               try simp only [Act.put, stz]
               refine wpAnyH_done (by kernel_rfl) ?_ _; refine NoPanic.normal ?_
               go_wp2_with fail
               go_roundw
               case rel => exact ⟨k + 1, _, by omega, by go_num, Lib.hid (by rw [HTK.out]; exact (HC3.out.ext ((Ext.refl _).alloc _)).store HAP.out), Lib.hid (Ext.setNew HX4.out hgW _)⟩
               case measure => simp [intOf]; omega
             exact AllReadyH.nil
           exact AllReadyH.nil
         exact AllReadyH.nil
       exact AllReadyH.nil
     refine AllReadyH.cons (o := _) rfl (fun K hK => ?_) ?_
     · go_simp
       go_at_call 204; refine (HLC.out _ hxr.out.drew).mono ?_; rintro e w3 ⟨⟨x3, y3, rfl, hx3', hy3'⟩, hx3⟩
       obtain ⟨O1, o1, rfl, _, _⟩ := SliceR.form hx3'; obtain ⟨O2, o2, rfl, _, _⟩ := SliceR.form hy3'; have HX3 := Lib.hid (hxr.out.drew.trans' hx3); have HE3 := Lib.hid (show Ext wr w3 from (Ext.refl wr).drew.trans' hx3); have HO1 := Lib.hid (show AtomsR (From wr.heap.size) w3 (.slice O1 x.comes.length o1) x.comes from hx3'); have HO2 := Lib.hid (show AtomsR (From wr.heap.size) w3 (.slice O2 x.goes.length o2) x.goes from hy3'); have HC3 := Lib.hid (hcr.out.ext HE3.out); have y3 := HC3.out.box.cell 3; have yl := HC3.out.box.lt; clear hx3' hy3' hx3; refine hK.out _ _ ?_ (fun hNew => ?_)
       · (try dsimp only); (first | exact HSW.out _ (Ext.setNew HX4.out hgW _) | exact HSW.out _ HX4.out | exact HSW.out _ (HX3.out.alloc _) | exact HSW.out _ HX3.out | exact HSW.out _ hxr.out.drew)
       clear hK K hHeld; have hHeld := hNew; clear hNew
       try simp only [Act.put, stz]
       refine wpAnyH_ready (rs := [1, 8]) (by kernel_rfl) (by simp) ?_; refine AllReadyH.cons (o := _) rfl (fun K hK => ?_) ?_
       · go_simp
         refine hK.out _ _ ?_ (fun hNew => ?_)
         · (try dsimp only); (first | exact HSW.out _ (Ext.setNew HX4.out hgW _) | exact HSW.out _ HX4.out | exact HSW.out _ (HX3.out.alloc _) | exact HSW.out _ HX3.out | exact HSW.out _ hxr.out.drew)
         clear hK K hHeld; have hHeld := hNew; clear hNew
         try simp only [Act.put, stz]
         refine wpAnyH_ready (rs := [8]) (by kernel_rfl) (by simp) ?_; refine AllReadyH.cons (o := _) rfl (fun K hK => ?_) ?_
         · go_simp
           refine hK.out _ _ ?_ (fun hNew => ?_)
           · (try dsimp only); (first | exact HSW.out _ (Ext.setNew HX4.out hgW _) | exact HSW.out _ HX4.out | exact HSW.out _ (HX3.out.alloc _) | exact HSW.out _ HX3.out | exact HSW.out _ hxr.out.drew)
           clear hK K hHeld; have hHeld := hNew; clear hNew
           try simp only [Act.put, stz]
           refine wpAnyH_ready (rs := [9]) (by kernel_rfl) (by simp) ?_; refine AllReadyH.cons (o := _) rfl (fun K hK => ?_) ?_
           · refine step_appK (o := ⟨some 30, _, _, _, _, _⟩) (k := kChange) (S := From n1) (T := From wr.heap.size) (base := n1) (xs := B.hist.take k) (ys := [x]) (by rfl) (.tmp 22) (.tmp 29) 24 (by rfl) i0 _ 48 Tryz.underlying24 hi0 hz0 hz1 hz2 (by rfl) (by rfl) (HC3.out.hist.alloc _) _ 1 1 (by rfl) (ElemsK.one (k := kChange) (x := x) (l := [.slice O1 x.comes.length o1, .slice O2 x.goes.length o2]) (Blk.new _ _ _) ⟨_, _, rfl, HO1.out.ext ((Ext.refl _).alloc _), HO2.out.ext ((Ext.refl _).alloc _)⟩) (fun b hb _ => Nat.le_trans hn1w hb) (fun g' hg' hT => absurd (HLOW.out g' hg') (Nat.not_lt.2 hT)) (maxOf (by rw [HKL.out]; omega)) (by rw [HKL.out]; omega) (by have := HE3.out.size; go_size) ?_
             intro v4 w4 hap; obtain ⟨A4, n4, c4, rfl, hn4, h41, h42⟩ := hap.own.form2; have HAP := Lib.hid hap; have HX4 := Lib.hid (hap.toExt (w0 := W) (HX3.out.alloc _) (by omega)); have HQ4 := Lib.hid ((HC3.out.box.alloc _).below hap.below hgn); have z3 := HQ4.out.cell 3; have zf := HQ4.out.frozen 3; have zl := HQ4.out.lt; clear hap; refine hK.out _ _ ?_ (fun hNew => ?_)
             · (try dsimp only); (first | exact HSW.out _ (Ext.setNew HX4.out hgW _) | exact HSW.out _ HX4.out | exact HSW.out _ (HX3.out.alloc _) | exact HSW.out _ HX3.out | exact HSW.out _ hxr.out.drew)
             clear hK K hHeld; have hHeld := hNew; clear hNew
             try simp only [Act.put, stz]
             refine tk 10 (v := ?_) rfl ?_ ?_; rotate_left; ((intro w hSw; (try dsimp only at hSw); go_simp) <;> with_reducible rfl); (try simp only [Act.put, stz])
             refine wpAnyH_ready (rs := [11]) (by kernel_rfl) (by simp) ?_; refine AllReadyH.cons (o := _) rfl (fun K hK => ?_) ?_
             · go_simp
               refine hK.out _ _ ?_ (fun hNew => ?_)
               · (try dsimp only); (first | exact HSW.out _ (Ext.setNew HX4.out hgW _) | exact HSW.out _ HX4.out | exact HSW.out _ (HX3.out.alloc _) | exact HSW.out _ HX3.out | exact HSW.out _ hxr.out.drew)
               clear hK K hHeld; have hHeld := hNew; clear hNew
               try simp only [Act.put, stz]
               refine wpAnyH_done (by kernel_rfl) ?_ _; refine NoPanic.normal ?_
               go_wp2_with fail
               go_roundw
               case rel => exact ⟨k + 1, _, by omega, by go_num, Lib.hid (by rw [HTK.out]; exact (HC3.out.ext ((Ext.refl _).alloc _)).store HAP.out), Lib.hid (Ext.setNew HX4.out hgW _)⟩
               case measure => simp [intOf]; omega
             exact AllReadyH.nil
           exact AllReadyH.nil
         exact AllReadyH.nil
       refine AllReadyH.cons (o := _) rfl (fun K hK => ?_) ?_
       · go_simp
         refine hK.out _ _ ?_ (fun hNew => ?_)
         · (try dsimp only); (first | exact HSW.out _ (Ext.setNew HX4.out hgW _) | exact HSW.out _ HX4.out | exact HSW.out _ (HX3.out.alloc _) | exact HSW.out _ HX3.out | exact HSW.out _ hxr.out.drew)
         clear hK K hHeld; have hHeld := hNew; clear hNew
         try simp only [Act.put, stz]
         refine wpAnyH_ready (rs := [1]) (by kernel_rfl) (by simp) ?_; refine AllReadyH.cons (o := _) rfl (fun K hK => ?_) ?_
         · go_simp
           refine hK.out _ _ ?_ (fun hNew => ?_)
           · (try dsimp only); (first | exact HSW.out _ (Ext.setNew HX4.out hgW _) | exact HSW.out _ HX4.out | exact HSW.out _ (HX3.out.alloc _) | exact HSW.out _ HX3.out | exact HSW.out _ hxr.out.drew)
           clear hK K hHeld; have hHeld := hNew; clear hNew
           try simp only [Act.put, stz]
           refine wpAnyH_ready (rs := [9]) (by kernel_rfl) (by simp) ?_; refine AllReadyH.cons (o := _) rfl (fun K hK => ?_) ?_
           · refine step_appK (o := ⟨some 30, _, _, _, _, _⟩) (k := kChange) (S := From n1) (T := From wr.heap.size) (base := n1) (xs := B.hist.take k) (ys := [x]) (by rfl) (.tmp 22) (.tmp 29) 24 (by rfl) i0 _ 48 Tryz.underlying24 hi0 hz0 hz1 hz2 (by rfl) (by rfl) (HC3.out.hist.alloc _) _ 1 1 (by rfl) (ElemsK.one (k := kChange) (x := x) (l := [.slice O1 x.comes.length o1, .slice O2 x.goes.length o2]) (Blk.new _ _ _) ⟨_, _, rfl, HO1.out.ext ((Ext.refl _).alloc _), HO2.out.ext ((Ext.refl _).alloc _)⟩) (fun b hb _ => Nat.le_trans hn1w hb) (fun g' hg' hT => absurd (HLOW.out g' hg') (Nat.not_lt.2 hT)) (maxOf (by rw [HKL.out]; omega)) (by rw [HKL.out]; omega) (by have := HE3.out.size; go_size) ?_
             intro v4 w4 hap; obtain ⟨A4, n4, c4, rfl, hn4, h41, h42⟩ := hap.own.form2; have HAP := Lib.hid hap; have HX4 := Lib.hid (hap.toExt (w0 := W) (HX3.out.alloc _) (by omega)); have HQ4 := Lib.hid ((HC3.out.box.alloc _).below hap.below hgn); have z3 := HQ4.out.cell 3; have zf := HQ4.out.frozen 3; have zl := HQ4.out.lt; clear hap; refine hK.out _ _ ?_ (fun hNew => ?_)
             · (try dsimp only); (first | exact HSW.out _ (Ext.setNew HX4.out hgW _) | exact HSW.out _ HX4.out | exact HSW.out _ (HX3.out.alloc _) | exact HSW.out _ HX3.out | exact HSW.out _ hxr.out.drew)
             clear hK K hHeld; have hHeld := hNew; clear hNew
             try simp only [Act.put, stz]
             refine tk 10 (v := ?_) rfl ?_ ?_; rotate_left; ((intro w hSw; (try dsimp only at hSw); go_simp) <;> with_reducible rfl); (try simp only [Act.put, stz])
             refine wpAnyH_ready (rs := [11]) (by kernel_rfl) (by simp) ?_; refine AllReadyH.cons (o := _) rfl (fun K hK => ?_) ?_
             · go_simp
               refine hK.out _ _ ?_ (fun hNew => ?_)
               · (try dsimp only); (first | exact HSW.out _ (Ext.setNew HX4.out hgW _) | exact HSW.out _ HX4.out | exact HSW.out _ (HX3.out.alloc _) | exact HSW.out _ HX3.out | exact HSW.out _ hxr.out.drew)
               clear hK K hHeld; have hHeld := hNew; clear hNew
               try simp only [Act.put, stz]
               refine wpAnyH_done (by kernel_rfl) ?_ _; refine NoPanic.normal ?_
               go_wp2_with fail
               go_roundw
               case rel => exact ⟨k + 1, _, by omega, by go_num, Lib.hid (by rw [HTK.out]; exact (HC3.out.ext ((Ext.refl _).alloc _)).store HAP.out), Lib.hid (Ext.setNew HX4.out hgW _)⟩
               case measure => simp [intOf]; omega
             exact AllReadyH.nil
           exact AllReadyH.nil
         exact AllReadyH.nil
       exact AllReadyH.nil
     exact AllReadyH.nil
   have hk1 : ¬ (k : Int) < (B.hist.length : Int) := by omega
   obtain rfl : k = B.hist.length := by omega
   rw [List.take_length] at hcr; obtain ⟨H, ch, rfl, _, _⟩ := hcr.out.hist.form; have HB9 := Lib.hid (HB2.out.ext hxr.out); have g0 := hcr.out.box.cell 0; have g1 := hcr.out.box.cell 1; have g2 := hcr.out.box.cell 2; have g3 := hcr.out.box.cell 3; have gl := hcr.out.box.lt; have y0 := HB9.out.cell 0; have y1 := HB9.out.cell 1; have y2 := HB9.out.cell 2; have y3 := HB9.out.cell 3; have yf0 := HB9.out.frozen 0; have yf1 := HB9.out.frozen 1; have yf2 := HB9.out.frozen 2; have yf3 := HB9.out.frozen 3; have yl := HB9.out.lt
   go_wp2_with fail
   refine bodyPost_ret (v := .agg #[.slice RA B.rules.length ra, .int .i64 B.time, .slice RB B.given.length rb, .slice H B.hist.length ch]) (by simp [results, Tryz.results208, go_sem, y0, y1, y2, y3, yf0, yf1, yf2, yf3, yl]) rfl ?_; refine ⟨⟨n1, g, Z, _, _, _, rfl, (((((hcr.out.far (p := ⟨w.heap.size + 1, 0, none⟩) (by simp; omega) _).far (p := ⟨w.heap.size + 1, 1, none⟩) (by simp; omega) _).far (p := ⟨w.heap.size + 1, 2, none⟩) (by simp; omega) _).far (p := ⟨w.heap.size + 1, 3, none⟩) (by simp; omega) _).mono (by omega))⟩, ?_⟩; have hg1 : w.heap.size ≤ w.heap.size + 1 := Nat.le_succ _; exact Ext.setNew (Ext.setNew (Ext.setNew (Ext.setNew (HX.out.trans' hxr.out) hg1 _) hg1 _) hg1 _) hg1 _
def touchF (c : GC) (a : GA) : Bool := hasA c.comes a || hasA c.goes a
def clashC (c d : GC) : Bool := d.comes.any (touchF c) || d.goes.any (touchF c)
def clashB (B : GB) (t : GX) : Bool := (List.range (B.time - t.from_).toNat).any fun i => clashC (B.hist.getD (B.hist.length - 1 - i) ⟨[], []⟩) t.change
theorem any_hit {l : List GA} {p : GA → Bool} {k : Nat} {x : GA} (h : l[k]? = some x) (hx : p x = true) : l.any p = true := by
 rw [List.any_eq_true]; exact ⟨x, List.mem_of_getElem? h, hx⟩
theorem any_none {l : List GA} {p : GA → Bool} (h : ∀ (i : Nat) (x : GA), i < l.length → l[i]? = some x → p x = false) : l.any p = false := by
 rw [List.any_eq_false]; intro x hx; obtain ⟨i, hi⟩ := List.getElem?_of_mem hx; simp [h i x (List.getElem?_eq_some_iff.1 hi).1 hi]
set_option maxRecDepth 100000 in
set_option maxHeartbeats 8000000 in
theorem l7Clash_any (B : GB) (t : GX) (v u : Value) (w : World) {S T : Nat → Prop} (hv : BaseR S w v B) (hu : TxnR T w u t) (hB : LiteB B) (hT : LiteX t) (hf : B.time - B.hist.length ≤ t.from_) :
 Calls Tryz.prog 210 #[v, u] w fun e w' => e = .returned (.bool (clashB B t)) ∧ Ext w w' := by
 obtain ⟨a, b, c, rfl, hr, hg, hh⟩ := hv; obtain ⟨A1, c1, rfl, _, _⟩ := SliceR.form hr; obtain ⟨A2, c2, rfl, _, _⟩ := SliceR.form hg; obtain ⟨H, c3, rfl, _, _⟩ := SliceR.form hh; obtain ⟨ta, tb, rfl, ha, hb⟩ := hu; obtain ⟨X, cx, rfl, _, _⟩ := SliceR.form ha; obtain ⟨Y, cy, rfl, _, _⟩ := SliceR.form hb
 obtain ⟨W, hW⟩ : ∃ W, W = (w.alloc (.cells #[.slice A1 B.rules.length c1, .int .i64 B.time, .slice A2 B.given.length c2, .slice H B.hist.length c3] 45)).alloc (.cells #[.int .i64 t.from_, .slice X t.change.comes.length cx, .slice Y t.change.goes.length cy] 205) := ⟨_, rfl⟩
 have HB1 := Lib.hid (show Blk W w.heap.size 45 #[.slice A1 B.rules.length c1, .int .i64 B.time, .slice A2 B.given.length c2, .slice H B.hist.length c3] from by rw [hW]; exact (Blk.new _ _ _).alloc _); have HB2 := Lib.hid (show Blk W (w.heap.size + 1) 205 #[.int .i64 t.from_, .slice X t.change.comes.length cx, .slice Y t.change.goes.length cy] from by rw [hW]; exact Blk.at_new (by simp)); have HX := Lib.hid (show Ext w W from by rw [hW]; exact ((Ext.refl _).alloc _).alloc _); have HHI := Lib.hid (show ChangesR S W (.slice H B.hist.length c3) B.hist from ListK.ext (k := kChange) hh HX.out); have HC1 := Lib.hid (ha.ext HX.out); have HC2 := Lib.hid (hb.ext HX.out); have hT1 := hB.time; have hT2 := hT.from_; have hT3 := hB.hist.1
 obtain ⟨N, hN⟩ : ∃ N, N = (B.time - t.from_).toNat := ⟨_, rfl⟩
 have HCL := Lib.hid (show clashB B t = (List.range N).any fun i => clashC (B.hist.getD (B.hist.length - 1 - i) ⟨[], []⟩) t.change from by rw [hN]; rfl)
 have hNl : N ≤ B.hist.length := by omega
 obtain ⟨M, hM⟩ : ∃ M : Int, M = B.time - t.from_ := ⟨_, rfl⟩
 have hMN : M ≤ (N : Int) ∧ (M = (N : Int) ∨ M < 0 ∧ N = 0) := by omega
 have hwm : IntKind.i64.wrap (B.time - t.from_) = M := by rw [IntKind.wrap_i64]; omega
 clear hr hg hh ha hb hN hM hB hT
 go_enter Tryz.func210, Tryz.ntmps210
 go_wp2_with fail
 rw [← hW]; clear hW
 go_loopw [5] (fun i wr => ∃ k : Nat, k ≤ N ∧ i = .int .i64 k ∧ Hid (∀ i, i < k → clashC (B.hist.getD (B.hist.length - 1 - i) ⟨[], []⟩) t.change = false) ∧ Ext W wr) (fun i _ => N - (intOf i).toNat)
 case atStart => exact ⟨0, Nat.zero_le _, rfl, Lib.hid (fun i h => absurd h (Nat.not_lt_zero _)), Ext.refl _⟩
 case round =>
  obtain ⟨k, hk, rfl, hp, hx⟩ := hrel
  have hk0 : (0 : Int) ≤ (k : Int) := by omega
  have hb1 := HB1.out.ext hx; have hb2 := HB2.out.ext hx; have p0 := hb1.cell 0; have p1 := hb1.cell 1; have p3 := hb1.cell 3; have pl := hb1.lt; have q0 := hb2.cell 0; have q1 := hb2.cell 1; have q2 := hb2.cell 2; have ql := hb2.lt; clear hb1 hb2
  by_cases hlt : k < N
  · have hlt' : (k : Int) < M := by omega
    obtain ⟨m, hm⟩ : ∃ m, m = B.hist.length - 1 - k := ⟨_, rfl⟩
    have hml : m < B.hist.length := by omega
    have hm0 : (0 : Int) ≤ (m : Int) := by omega
    have hm1 : (m : Int) < (B.hist.length : Int) := by omega
    have hw1 : IntKind.i64.wrap ((B.hist.length : Int) - 1) = (B.hist.length : Int) - 1 := by rw [IntKind.wrap_i64]; omega
    have hw2 : IntKind.i64.wrap ((B.hist.length : Int) - 1 - (k : Int)) = (m : Int) := by rw [IntKind.wrap_i64]; omega
    obtain ⟨bb, off, g, va, vb, rfl, hbl, hgk, hva, hvb, hc0, hc1⟩ := ChangesR.at_ (show ChangesR S wr (.slice H B.hist.length c3) B.hist from ListK.ext (k := kChange) HHI.out hx) hml; obtain ⟨P, cp, rfl, _, _⟩ := SliceR.form hva; obtain ⟨Q, cq, rfl, _, _⟩ := SliceR.form hvb; have HAG := Lib.hid (show B.hist.getD (B.hist.length - 1 - k) ⟨[], []⟩ = g from by rw [← hm, List.getD_eq_getElem?_getD, hgk]; rfl)
    obtain ⟨tb, htb⟩ : ∃ tb, tb = wr.heap.size := ⟨_, rfl⟩
    obtain ⟨WT, hWT⟩ : ∃ WT, WT = wr.alloc (.cells #[.slice P g.comes.length cp, .slice Q g.goes.length cq] 32) := ⟨_, rfl⟩
    have HTB := Lib.hid (show Blk WT tb 32 #[.slice P g.comes.length cp, .slice Q g.goes.length cq] from by rw [hWT, htb]; exact Blk.new _ _ _); have HXT := Lib.hid (show Ext W WT from by rw [hWT]; exact hx.alloc _); have HG1 := Lib.hid (show AtomsR S WT (.slice P g.comes.length cp) g.comes from by rw [hWT]; exact hva.ext ((Ext.refl _).alloc _)); have HG2 := Lib.hid (show AtomsR S WT (.slice Q g.goes.length cq) g.goes from by rw [hWT]; exact hvb.ext ((Ext.refl _).alloc _)); have HWT := Lib.hid hWT; have HTBE := Lib.hid htb; clear hm hWT htb hgk hva hvb
    go_wp2_with fail
    rw [← HTBE.out, ← HWT.out]; clear hc0 hc1 p0 p1 p3 pl q0 q1 q2 ql
    go_loopw [7] (fun i wr => ∃ q : Nat, q ≤ t.change.comes.length ∧ i = .int .i64 q ∧ Hid (∀ (i : Nat) (x : GA), i < q → t.change.comes[i]? = some x → touchF g x = false) ∧ Ext WT wr) (fun i _ => t.change.comes.length - (intOf i).toNat)
    case atStart => exact ⟨0, Nat.zero_le _, rfl, Lib.hid (fun i x h => absurd h (Nat.not_lt_zero _)), Ext.refl _⟩
    case round =>
     obtain ⟨q, hq, rfl, hp2, hxq⟩ := hrel
     have hq0 : (0 : Int) ≤ (q : Int) := by omega
     have hxx := HXT.out.trans' (hxq); have HXX := Lib.hid hxx; have HXG := Lib.hid (hxq); have hb2 := HB2.out.ext hxx; have hb3 := HTB.out.ext (hxq); have r1 := hb2.cell 1; have r2 := hb2.cell 2; have rl := hb2.lt; have s0 := hb3.cell 0; have s1 := hb3.cell 1; have sl := hb3.lt; clear hxx hb2 hb3
     by_cases hlq : q < t.change.comes.length
     · have hlq' : (q : Int) < (t.change.comes.length : Int) := by omega
       obtain ⟨bx, ox, x, v2, rfl, hbl2, hxk, hxs, hxt, hd0, hd1⟩ := AtomsR.at_ (HC1.out.ext HXX.out) hlq; obtain ⟨Z, cz, rfl, _, _⟩ := SliceR.form hxt; have HXK := Lib.hid hxk
       obtain ⟨h1, hh1⟩ : ∃ h1, h1 = hasA g.comes x := ⟨_, rfl⟩
       obtain ⟨h2, hh2⟩ : ∃ h2, h2 = hasA g.goes x := ⟨_, rfl⟩
       have HH1 := Lib.hid (fun (W' : World) (hW' : Ext wr W') => show Calls Tryz.prog 104 #[.slice P g.comes.length cp, .agg #[.string x.n, .slice Z x.args.length cz]] W' fun e w' => e = .returned (.bool h1) ∧ Ext W' w' from by
        rw [hh1]; exact l3Has_any _ _ g.comes x W' (HG1.out.ext (HXG.out.trans' hW')) (hxt.ext hW'))
       have HH2 := Lib.hid (fun (W' : World) (hW' : Ext wr W') => show Calls Tryz.prog 104 #[.slice Q g.goes.length cq, .agg #[.string x.n, .slice Z x.args.length cz]] W' fun e w' => e = .returned (.bool h2) ∧ Ext W' w' from by
        rw [hh2]; exact l3Has_any _ _ g.goes x W' (HG2.out.ext (HXG.out.trans' hW')) (hxt.ext hW'))
       have HTU := Lib.hid (show touchF g x = (h1 || h2) from by rw [hh1, hh2]; rfl); clear hxk hxt hh1 hh2
       go_wp2_with fail
       go_upto_region 8 with fail
       go_cut [55] (fun s wx => s = .bool (h1 || h2) ∧ Hid (Ext wr wx))
       case first =>
        cases h1
        · refine calm_region (by kernel_rfl) (by kernel_rfl) ?_
          repeat (go_big_quiet_step (first | (go_at_call 104; with_reducible exact calm_call (HH1.out _ (Later.ext _))) | (go_at_call 104; exact calm_call (HH2.out _ (Later.ext _)))))
          refine wpQuiet_nil ?_; rintro w9 ⟨⟨_, hx9⟩, rfl⟩
          go_wp2_with fail
          go_meet
          exact ⟨by simp, Lib.hid hx9⟩
        refine calm_region (by kernel_rfl) (by kernel_rfl) ?_
        repeat (go_big_quiet_step (first | (go_at_call 104; with_reducible exact calm_call (HH1.out _ (Later.ext _))) | (go_at_call 104; exact calm_call (HH2.out _ (Later.ext _)))))
        refine wpQuiet_nil ?_; rintro w9 ⟨⟨_, hx9⟩, rfl⟩
        go_wp2_with fail
        go_meet
        exact ⟨by simp, Lib.hid hx9⟩
       case rest =>
        rename World => w10
        obtain ⟨rfl, hx10⟩ := hcut
        obtain ⟨tt, htt⟩ : ∃ tt, tt = (h1 || h2) := ⟨_, rfl⟩
        rw [← htt] at HTU ⊢; clear htt
        cases tt
        · go_wp2_with fail
          go_roundw
          case rel =>
           have HN := Lib.hid (show ∀ (i : Nat) (y : GA), i < q + 1 → t.change.comes[i]? = some y → touchF g y = false from fun i y hi hy => by
            rcases Nat.lt_or_ge i q with h | h
            · exact hp2.out i y h hy
            have e : i = q := by omega
            subst e; have h1 := HXK.out
            rw [hy] at h1; injection h1 with h1
            subst h1
            exact HTU.out)
           first
            | exact ⟨q + 1, by omega, by go_num, HN, hxq.trans' hx10.out⟩
            | ((repeat apply Exists.intro); exact ⟨⟨q + 1, by omega, by go_num, HN, hxq.trans' hx10.out⟩, rfl⟩)
          case measure => simp [intOf]; omega
        have HF := Lib.hid (show clashB B t = true from by
          rw [HCL.out, List.any_eq_true]; refine ⟨k, List.mem_range.2 hlt, ?_⟩; rw [HAG.out]; unfold clashC
          rw [any_hit (l := t.change.comes) HXK.out HTU.out]; simp)
        go_wp2_with fail
        go_ret; rw [HF.out]; exact ⟨rfl, HX.out.trans' (HXX.out.trans' hx10.out)⟩
     have hlq' : ¬ (q : Int) < (t.change.comes.length : Int) := by omega
     have HAN := Lib.hid (show t.change.comes.any (touchF g) = false from any_none (fun i x hi hx => hp2.out i x (by omega) hx)); clear hp2
     go_wp2_with fail
     rename World => w6
     go_loopw [8] (fun i wr => ∃ q : Nat, q ≤ t.change.goes.length ∧ i = .int .i64 q ∧ Hid (∀ (i : Nat) (x : GA), i < q → t.change.goes[i]? = some x → touchF g x = false) ∧ Ext w6 wr) (fun i _ => t.change.goes.length - (intOf i).toNat)
     case atStart => exact ⟨0, Nat.zero_le _, rfl, Lib.hid (fun i x h => absurd h (Nat.not_lt_zero _)), Ext.refl _⟩
     case round =>
      clear r1 r2 rl s0 s1 sl hlq hlq' hq0; have HXQ1 := Lib.hid hxq; clear hxq; obtain ⟨q, hq, rfl, hp2, hxq⟩ := hrel
      have hq0 : (0 : Int) ≤ (q : Int) := by omega
      have hxx := HXT.out.trans' (HXQ1.out.trans' hxq); have HXX := Lib.hid hxx; have HXG := Lib.hid (HXQ1.out.trans' hxq); have hb2 := HB2.out.ext hxx; have hb3 := HTB.out.ext (HXQ1.out.trans' hxq); have r1 := hb2.cell 1; have r2 := hb2.cell 2; have rl := hb2.lt; have s0 := hb3.cell 0; have s1 := hb3.cell 1; have sl := hb3.lt; clear hxx hb2 hb3
      by_cases hlq : q < t.change.goes.length
      · have hlq' : (q : Int) < (t.change.goes.length : Int) := by omega
        obtain ⟨bx, ox, x, v2, rfl, hbl2, hxk, hxs, hxt, hd0, hd1⟩ := AtomsR.at_ (HC2.out.ext HXX.out) hlq; obtain ⟨Z, cz, rfl, _, _⟩ := SliceR.form hxt; have HXK := Lib.hid hxk
        obtain ⟨h1, hh1⟩ : ∃ h1, h1 = hasA g.comes x := ⟨_, rfl⟩
        obtain ⟨h2, hh2⟩ : ∃ h2, h2 = hasA g.goes x := ⟨_, rfl⟩
        have HH1 := Lib.hid (fun (W' : World) (hW' : Ext wr W') => show Calls Tryz.prog 104 #[.slice P g.comes.length cp, .agg #[.string x.n, .slice Z x.args.length cz]] W' fun e w' => e = .returned (.bool h1) ∧ Ext W' w' from by
         rw [hh1]; exact l3Has_any _ _ g.comes x W' (HG1.out.ext (HXG.out.trans' hW')) (hxt.ext hW'))
        have HH2 := Lib.hid (fun (W' : World) (hW' : Ext wr W') => show Calls Tryz.prog 104 #[.slice Q g.goes.length cq, .agg #[.string x.n, .slice Z x.args.length cz]] W' fun e w' => e = .returned (.bool h2) ∧ Ext W' w' from by
         rw [hh2]; exact l3Has_any _ _ g.goes x W' (HG2.out.ext (HXG.out.trans' hW')) (hxt.ext hW'))
        have HTU := Lib.hid (show touchF g x = (h1 || h2) from by rw [hh1, hh2]; rfl); clear hxk hxt hh1 hh2
        go_wp2_with fail
        go_upto_region 13 with fail
        go_cut [83] (fun s wx => s = .bool (h1 || h2) ∧ Hid (Ext wr wx))
        case first =>
         cases h1
         · refine calm_region (by kernel_rfl) (by kernel_rfl) ?_
           repeat (go_big_quiet_step (first | (go_at_call 104; with_reducible exact calm_call (HH1.out _ (Later.ext _))) | (go_at_call 104; exact calm_call (HH2.out _ (Later.ext _)))))
           refine wpQuiet_nil ?_; rintro w9 ⟨⟨_, hx9⟩, rfl⟩
           go_wp2_with fail
           go_meet
           exact ⟨by simp, Lib.hid hx9⟩
         refine calm_region (by kernel_rfl) (by kernel_rfl) ?_
         repeat (go_big_quiet_step (first | (go_at_call 104; with_reducible exact calm_call (HH1.out _ (Later.ext _))) | (go_at_call 104; exact calm_call (HH2.out _ (Later.ext _)))))
         refine wpQuiet_nil ?_; rintro w9 ⟨⟨_, hx9⟩, rfl⟩
         go_wp2_with fail
         go_meet
         exact ⟨by simp, Lib.hid hx9⟩
        case rest =>
         rename World => w10
         obtain ⟨rfl, hx10⟩ := hcut
         obtain ⟨tt, htt⟩ : ∃ tt, tt = (h1 || h2) := ⟨_, rfl⟩
         rw [← htt] at HTU ⊢; clear htt
         cases tt
         · go_wp2_with fail
           go_roundw
           case rel =>
            have HN := Lib.hid (show ∀ (i : Nat) (y : GA), i < q + 1 → t.change.goes[i]? = some y → touchF g y = false from fun i y hi hy => by
             rcases Nat.lt_or_ge i q with h | h
             · exact hp2.out i y h hy
             have e : i = q := by omega
             subst e; have h1 := HXK.out
             rw [hy] at h1; injection h1 with h1
             subst h1
             exact HTU.out)
            first
             | exact ⟨q + 1, by omega, by go_num, HN, hxq.trans' hx10.out⟩
             | ((repeat apply Exists.intro); exact ⟨⟨q + 1, by omega, by go_num, HN, hxq.trans' hx10.out⟩, rfl⟩)
           case measure => simp [intOf]; omega
         have HF := Lib.hid (show clashB B t = true from by
           rw [HCL.out, List.any_eq_true]; refine ⟨k, List.mem_range.2 hlt, ?_⟩; rw [HAG.out]; unfold clashC
           rw [any_hit (l := t.change.goes) HXK.out HTU.out]; simp)
         go_wp2_with fail
         go_ret; rw [HF.out]; exact ⟨rfl, HX.out.trans' (HXX.out.trans' hx10.out)⟩
      have hlq' : ¬ (q : Int) < (t.change.goes.length : Int) := by omega
      have HAG2 := Lib.hid (show t.change.goes.any (touchF g) = false from any_none (fun i x hi hx => hp2.out i x (by omega) hx)); clear hp2
      go_wp2_with fail
      go_roundw
      case rel =>
       have HN := Lib.hid (show ∀ i, i < k + 1 → clashC (B.hist.getD (B.hist.length - 1 - i) ⟨[], []⟩) t.change = false from fun i hi => by
        rcases Nat.lt_or_ge i k with h | h
        · exact hp.out i h
        have e : i = k := by omega
        subst e; rw [HAG.out]; unfold clashC
        rw [HAN.out, HAG2.out]; rfl)
       first
        | exact ⟨k + 1, by omega, by go_num, HN, HXX.out⟩
        | ((repeat apply Exists.intro); exact ⟨⟨k + 1, by omega, by go_num, HN, HXX.out⟩, rfl⟩)
      case measure => simp [intOf]; omega
  have hlt' : ¬ (k : Int) < M := by omega
  obtain rfl : k = N := by omega
  have HF := Lib.hid (show clashB B t = false from by
   rw [HCL.out, List.any_eq_false]; intro i hi
   rw [hp.out i (List.mem_range.1 hi)]; simp)
  clear hp
  go_wp2_with fail
  go_ret; rw [HF.out]; exact ⟨rfl, HX.out.trans' hx⟩
end Go.Proofs.YtmihponoillihaaGreatDoor
