/- How an argument of bytes reads. -/
import Derived.Test.YthndnkafckapnaaGreatDoorDraw
import Derived.Test.YthndnkafckapnaaGreatDoorRead
import Derived.ChangeSlices
namespace Go.Proofs.YthndnkafckapnaaGreatDoor
open Go.RowKit Go.ChangeShapes Go.WideShapes

theorem byte_wf {z : Int} (h : (Lit.int .u8 z).wf = true) : 0 ≤ z ∧ z < 256 := by
  have e1 : IntKind.u8.min = 0 := rfl
  have e2 : IntKind.u8.max = 255 := rfl
  simp [Lit.wf, e1, e2] at h
  omega

section
variable {H : Type} {enc : TypeId × Value → H} {w : World} {base : Nat} {spare : Nat → Bool} {held : Bool} {fuel : Nat} {v : Value} {x : DataW H × List MemPlace}
theorem read_bytes (h : DataW.trod enc Tryz.prog w base spare held fuel 22 [v] = some x) : ∃ xs : List UInt8, BytesR Any w v xs := by
  rcases open_ints Tryz.underlying22 Tryz.underlying5 (by kernel_rfl) h with ⟨hcs, _⟩ | ⟨a, len, cap, zs, hcs, hb, hl, hm, hzl, hx, hc, hwf⟩
  · injection hcs with hv _
    subst hv
    exact ⟨[], SliceR.nil_ 0 (Nat.zero_le _) none⟩
  · injection hcs with hv _
    subst hv
    have hlz : len ≤ zs.length := by rw [hzl]; split <;> omega
    by_cases h0 : 0 < len
    · have h00 := hc 0 (by omega)
      have ha0 : a.add 0 = a := by simp [Addr.add]
      rw [ha0] at h00
      have haa := cell_addr h00
      have hadd : ∀ n, a.add n = ⟨a.block, a.off + n, none⟩ := by
        intro n
        unfold Addr.add
        split
        · rename_i h; subst h; rw [Nat.add_zero]; exact haa
        · rfl
      rw [haa] at h00
      have hln : ((zs.take len).map (fun z => UInt8.ofNat z.toNat)).length = len := by rw [List.length_map, List.length_take]; omega
      refine ⟨(zs.take len).map (fun z => UInt8.ofNat z.toNat), some a, cap, by rw [hln], by rw [hln]; exact hl, hm, fun _ => ⟨a.block, a.off, by rw [← haa], cell_lt h00, trivial, fun i c hi => ?_⟩⟩
      refine ⟨[.int .u8 c.toNat], rfl, fun j u hu => ?_, rfl⟩
      match j, hu with
      | 0, hu =>
        simp at hu; subst hu
        rw [List.getElem?_map, List.getElem?_take] at hi
        split at hi
        · have hiz : i < zs.length := by omega
          rw [List.getElem?_eq_getElem hiz] at hi
          simp at hi
          have hz := byte_wf (hwf _ (List.getElem_mem hiz))
          have h1 := hc i hiz
          rw [hadd, List.getD_eq_getElem?_getD, List.getElem?_eq_getElem hiz] at h1
          rw [← hi, Nat.mul_one, Nat.add_zero, h1, UInt8.toNat_ofNat']
          simp
          omega
        · simp at hi
    · obtain rfl : len = 0 := by omega
      exact ⟨[], SliceR.nil_ cap hm _⟩
end
end Go.Proofs.YthndnkafckapnaaGreatDoor
