/- For all codes FnChangeText returns true. No condition but the card's: what the listed tables hold. -/
import Derived.Test.YthndnkafckapnaaGreatDoorChangeText
import Derived.Test.YthndnkafckapnaaGreatDoorReadB
import Derived.Test.YthndnkafckapnaaGreatDoorLaw
import Derived.Test.YthndnkafckapnaaGreatDoorShaped
import Derived.Test.YthndnkafckapnaaGreatDoorTie
import Derived.Test.YthndnkafckapnaaGreatDoorCards
import Derived.LaidMore
import Derived.OpenShut
import Derived.MakeChecks
import Derived.Stop.LaidErr
import Derived.Lay
import Derived.Stop.Joined
namespace Go.Proofs.YthndnkafckapnaaGreatDoor
open Go.RowKit Go.ChangeShapes Go.WideShapes Go.ChangeAt
open Go.ChangeMaps (open_string)

theorem law_laid_plain (W : World) : laidMetH Tryz.prog Rows.fnChangeTextRow.laid W = laidMet Tryz.prog Rows.fnChangeTextRow.laid W := MakeChecks.laidMetH_plain _ _ _ (by kernel_rfl)
/-- The witness's world meets the condition. -/
theorem door_met (os : Os) (args : Array Value) : laidMetH Tryz.prog Rows.fnChangeTextRow.laid ((World.laidAll Tryz.prog os Rows.fnChangeTextRow.laid).forCall (fun _ _ => 0) ⟨#[], args, []⟩).memory := by
  rw [law_laid_plain]
  exact laidMet_laidAll args (by kernel_rfl) (by kernel_rfl)
theorem maxIs_shaped {W : World} (h : W.ShapedOpen Tryz.prog) : MaxIs W :=
  cell_of_shapedOpen_int (g := 0) (t := 3) (zero := #[.int .i64 0]) (k := .i64) h (of_decide_eq_true (by kernel_rfl)) (by kernel_rfl) rfl (by kernel_rfl) (by kernel_rfl) Tryz.underlying3

set_option maxRecDepth 100000 in
theorem fnChangeText_lifted (os : Os) (started : os.Started) (H : Type) (enc : TypeId × Value → H) :
    ReturnsInHanded {} Tryz.checked os 3 .any (fun w args => (Rows.fnChangeTextSpec.pre enc Tryz.prog Tryz.f3 [] false w args ∧ laidMetH Tryz.prog Rows.fnChangeTextRow.laid w) ∧ sizedMet enc Tryz.prog Tryz.f3 (OpenSpec.ofChange Rows.fnChangeTextSpec) false w args)
      (Rows.fnChangeTextSpec.post enc Tryz.prog Tryz.f3 false true false false) := by
  refine handed_and_shaped (C := Tryz.checked) (X := fun w _ => laidMetH Tryz.prog Rows.fnChangeTextRow.laid w) (fun _ _ _ hh h => h.of_heap hh) law_own started (by kernel_rfl) Tryz.func3
    (ChangeSpec.witness_shaped (enc := enc) (C := Tryz.checked) (os := os) (X := fun w _ => laidMetH Tryz.prog Rows.fnChangeTextRow.laid w) false (World.laidAll Tryz.prog os Rows.fnChangeTextRow.laid) #[.slice none 0 0, .slice none 0 0] 8 (World.laidAll_os _ _ _) (World.shaped_of_ZipB (by kernel_rfl) (by kernel_rfl)) (by kernel_rfl) (by kernel_rfl) (by kernel_rfl) (door_met os _)) ?_
  intro W base args ds gs before hval0 hW _ hsh
  have hval : ∀ (j : Nat) t v, Tryz.f3.params[j]? = some t → args[j]? = some v → Value.okWide Tryz.prog W .any base t v := hval0
  have hW' := hW
  obtain ⟨p, q, hA0, hV, rfl, hfz, hnd⟩ := hW
  have hA : DataW.TrodAll enc Tryz.prog W 0 (fun _ => true) true Tryz.f3.params.toList args.toList ds p := hA0
  rw [Tryz.params3] at hA hval
  obtain ⟨v0, v1, d0, d1, p0, p1, rfl, rfl, rfl, ⟨k0, h0⟩, ⟨k1, h1⟩⟩ := trodAll_two hA
  obtain ⟨rfl, rfl⟩ := trodVars_none hV
  obtain ⟨_, _, _, rfl⟩ := okWide_slice Tryz.underlying22 (hval 0 22 v0 rfl rfl)
  obtain ⟨_, _, _, rfl⟩ := okWide_slice Tryz.underlying22 (hval 1 22 v1 rfl rfl)
  obtain ⟨xs, hxs⟩ := read_bytes h0
  obtain ⟨ys, hys⟩ := read_bytes h1
  clear hA0 hval0
  simp only [List.append_nil] at hW'
  refine (changeText_any _ _ xs ys W hxs hys (maxIs_shaped hsh)).mono fun e W' ⟨he, hw⟩ => ?_
  subst he
  exact ⟨_, rfl, law_post (t := 4) rfl rfl Tryz.underlying4 rfl law_laidOut (by rw [Tryz.params3]; intro t ht; simp at ht; subst ht; exact ⟨by kernel_rfl, of_decide_eq_true (by kernel_rfl)⟩) hW' hw⟩

theorem fnChangeText_row : Rows.FnChangeTextSaid :=
  OpenClaim.holds_of_wide 3 Tryz.f3 rfl rfl rfl rfl rfl rfl rfl ⟨rfl, rfl, rfl, rfl, rfl⟩ rfl rfl rfl rfl rfl (by kernel_rfl) Tryz.func3 (by kernel_rfl)
    (of_decide_eq_true (by kernel_rfl)) (by unfold Func.isWrapper; rw [if_neg (of_decide_eq_false (by kernel_rfl))]; exact ⟨rfl, rfl⟩)
    (fun os started H enc _ => fnChangeText_lifted os started H enc)

theorem fnChangeText_holds : Rows.FnChangeTextCardSaid :=
  Claim7.holds_tied_plain_at .later [] [.data, .pinned] true (true, "736a6d1a4dff6e7b42d09b5a7c22d2fa88077401d5d452fe0ba53f68547d902f") true
    fnChangeText_row (fun _ h => by cases h) (by kernel_rfl) (fun _ h => by cases h) fnChangeText_row_tie rfl ⟨rfl, rfl⟩ (by kernel_rfl) rfl
    (fun f fn hf hfn => by
      obtain rfl : f = 3 := Option.some.inj ((show Tryz.prog.funcNamed "loop.example/springhead/laws.FnChangeText" = some 3 by kernel_rfl).symm.trans hf) |>.symm
      obtain rfl : fn = Tryz.f3 := (Option.some.inj (Tryz.func3.symm.trans hfn)).symm
      exact ⟨by kernel_rfl, fun j t ht => by
        rw [Tryz.params3] at ht
        have hm : t ∈ [22, 22] := by simpa using Array.mem_of_getElem? ht
        have hall : ([22, 22].all fun u => !Tryz.prog.wantsStandIn u) = true := by kernel_rfl
        exact (show Tryz.prog.wantsStandIn t = false by simpa using List.all_eq_true.1 hall t hm)⟩)
    (by kernel_rfl)

end Go.Proofs.YthndnkafckapnaaGreatDoor
