/- For every text FnExactLogGet returns true. No condition but the card's: what the listed tables hold. -/
import Derived.Test.YthndnkafckapnaaGreatDoorLogLaw
import Derived.Test.YthndnkafckapnaaGreatDoorLaw
import Derived.Test.YthndnkafckapnaaGreatDoorShaped
import Derived.Test.YthndnkafckapnaaGreatDoorTie
import Derived.Test.YthndnkafckapnaaGreatDoorCards
import Derived.LaidMore
import Derived.OpenShut
import Derived.MakeChecks
import Derived.Stop.LaidErr
import Derived.Lay
import Derived.Stop.Joined
namespace Go.Proofs.YthndnkafckapnaaGreatDoor
open Go.RowKit Go.ChangeShapes Go.WideShapes Go.ChangeAt
open Go.ChangeMaps (open_string)

theorem law_laid_plain (W : World) : laidMetH Tryz.prog Rows.fnExactLogGetRow.laid W = laidMet Tryz.prog Rows.fnExactLogGetRow.laid W := MakeChecks.laidMetH_plain _ _ _ (by kernel_rfl)
/-- The witness's world meets the condition. -/
theorem door_met (os : Os) (args : Array Value) : laidMetH Tryz.prog Rows.fnExactLogGetRow.laid ((World.laidAll Tryz.prog os Rows.fnExactLogGetRow.laid).forCall (fun _ _ => 0) ⟨#[], args, []⟩).memory := by
  rw [law_laid_plain]
  exact laidMet_laidAll args (by kernel_rfl) (by kernel_rfl)
theorem maxIs_shaped {W : World} (h : W.ShapedOpen Tryz.prog) : MaxIs W :=
  cell_of_shapedOpen_int (g := 0) (t := 3) (zero := #[.int .i64 0]) (k := .i64) h (of_decide_eq_true (by kernel_rfl)) (by kernel_rfl) rfl (by kernel_rfl) (by kernel_rfl) Tryz.underlying3

theorem pow_laid : (Rows.laid_internal_strconv_uint64pow10 : DataW Unit) = Lib.tabData .u64 Lib.pow10Tab := by kernel_rfl
theorem pow_of_laid {W : World} (h : laidMetH Tryz.prog Rows.fnExactLogGetRow.laid W) : Lib.TabIs Tryz.prog W "internal/strconv.uint64pow10" .u64 Lib.pow10Tab := by
  rw [law_laid_plain] at h
  have h2 : laidMet Tryz.prog (("internal/strconv.uint64pow10", Rows.laid_internal_strconv_uint64pow10) :: _) W := laidMet.tail (laidMet.tail h)
  rw [pow_laid] at h2
  exact Lib.tabIs_of_head (g := 5) (t := 277) (e := 271) (n := 20) (by kernel_rfl) (by kernel_rfl) Tryz.underlying277 Tryz.underlying271 (by kernel_rfl) (by kernel_rfl) h2
theorem star_error : "*" ++ "errors.errorString" = "*errors.errorString" := by decide
theorem row_error (u : TypeId) (h : Tryz.prog.typeName? 3 u = some "*errors.errorString") : u = 284 :=
  typeName_ptr_named (nm := "errors.errorString") (by rw [star_error]; kernel_rfl) (by kernel_rfl) (by decide) u (by rw [star_error]; exact h)
theorem eof_of_laid {W : World} (h : laidMetH Tryz.prog Rows.fnExactLogGetRow.laid W) : ∃ T y, EofIs W T y := by
  rw [law_laid_plain] at h
  have h2 : laidMet Tryz.prog (("io.EOF", Rows.laid_io_EOF) :: _) W := laidMet.tail (laidMet.tail (laidMet.tail (laidMet.tail h)))
  obtain ⟨a, s, hv, _⟩ := laid_sentinel (g := 2) (ti := 69) (tp := 284) (te := 304) (ts := 9) h2 (by kernel_rfl) (by kernel_rfl) Tryz.underlying69 row_error Tryz.underlying284 Tryz.underlying304 rfl rfl Tryz.underlying9 (by kernel_rfl) (by kernel_rfl)
  exact ⟨_, _, by unfold EofIs; simpa using World.var?_cell (show Tryz.prog.globalNamed "io.EOF" = some 2 by kernel_rfl) hv 0⟩

set_option maxRecDepth 100000 in
theorem exactLogGet_lifted (os : Os) (started : os.Started) (H : Type) (enc : TypeId × Value → H) :
    ReturnsInHanded {} Tryz.checked os 6 .any (fun w args => (Rows.fnExactLogGetSpec.pre enc Tryz.prog Tryz.f6 [] false w args ∧ laidMetH Tryz.prog Rows.fnExactLogGetRow.laid w) ∧ sizedMet enc Tryz.prog Tryz.f6 (OpenSpec.ofChange Rows.fnExactLogGetSpec) false w args)
      (Rows.fnExactLogGetSpec.post enc Tryz.prog Tryz.f6 false true false false) := by
  refine handed_and_shaped (C := Tryz.checked) (X := fun w _ => laidMetH Tryz.prog Rows.fnExactLogGetRow.laid w) (fun _ _ _ hh h => h.of_heap hh) law_own started (by kernel_rfl) Tryz.func6
    (ChangeSpec.witness_shaped (enc := enc) (C := Tryz.checked) (os := os) (X := fun w _ => laidMetH Tryz.prog Rows.fnExactLogGetRow.laid w) false (World.laidAll Tryz.prog os Rows.fnExactLogGetRow.laid) #[.string ⟨#[]⟩] 8 (World.laidAll_os _ _ _) (World.shaped_of_ZipB (by kernel_rfl) (by kernel_rfl)) (by kernel_rfl) (by kernel_rfl) (by kernel_rfl) (door_met os _)) ?_
  intro W base args ds gs before hval0 hW hL hsh
  have hval : ∀ (j : Nat) t v, Tryz.f6.params[j]? = some t → args[j]? = some v → Value.okWide Tryz.prog W .any base t v := hval0
  have hW' := hW
  obtain ⟨p, q, hA0, hV, rfl, hfz, hnd⟩ := hW
  have hA : DataW.TrodAll enc Tryz.prog W 0 (fun _ => true) true Tryz.f6.params.toList args.toList ds p := hA0
  rw [Tryz.params6] at hA hval
  obtain ⟨v0, d0, rfl, rfl, h0⟩ := trodAll_one hA
  obtain ⟨rfl, rfl⟩ := trodVars_none hV
  obtain ⟨s, rfl, rfl, rfl, hs⟩ := open_string Tryz.underlying9 (hval 0 9 v0 rfl rfl) h0
  clear hA0 hval0
  simp only [List.append_nil] at hW'
  obtain ⟨T, y, hy⟩ := eof_of_laid hL
  refine (exactLogGet_any s T y W hs (maxIs_shaped hsh) hy (pow_of_laid hL)).mono fun e W' ⟨he, hw⟩ => ?_
  subst he
  exact ⟨_, rfl, law_post (t := 4) rfl rfl Tryz.underlying4 rfl law_laidOut (by rw [Tryz.params6]; intro t ht; simp at ht; subst ht; exact ⟨by kernel_rfl, of_decide_eq_true (by kernel_rfl)⟩) hW' hw⟩

theorem exactLogGet_row : Rows.FnExactLogGetSaid :=
  OpenClaim.holds_of_wide 6 Tryz.f6 rfl rfl rfl rfl rfl rfl rfl ⟨rfl, rfl, rfl, rfl, rfl⟩ rfl rfl rfl rfl rfl (by kernel_rfl) Tryz.func6 (by kernel_rfl)
    (of_decide_eq_true (by kernel_rfl)) (by unfold Func.isWrapper; rw [if_neg (of_decide_eq_false (by kernel_rfl))]; exact ⟨rfl, rfl⟩)
    (fun os started H enc _ => exactLogGet_lifted os started H enc)

theorem exactLogGet_holds : Rows.FnExactLogGetCardSaid :=
  Claim7.holds_tied_plain_at .later [] [.data, .data, .data, .data, .sentinel, .pinned] true (true, "736a6d1a4dff6e7b42d09b5a7c22d2fa88077401d5d452fe0ba53f68547d902f") true
    exactLogGet_row (fun _ h => by cases h) (by kernel_rfl) (fun _ h => by cases h) fnExactLogGet_row_tie rfl ⟨rfl, rfl⟩ (by kernel_rfl) rfl
    (fun f fn hf hfn => by
      obtain rfl : f = 6 := Option.some.inj ((show Tryz.prog.funcNamed "loop.example/springhead/laws.FnExactLogGet" = some 6 by kernel_rfl).symm.trans hf) |>.symm
      obtain rfl : fn = Tryz.f6 := (Option.some.inj (Tryz.func6.symm.trans hfn)).symm
      exact ⟨by kernel_rfl, fun j t ht => by
        rw [Tryz.params6] at ht
        have hm : t ∈ [9] := by simpa using Array.mem_of_getElem? ht
        have hall : ([9].all fun u => !Tryz.prog.wantsStandIn u) = true := by kernel_rfl
        exact (show Tryz.prog.wantsStandIn t = false by simpa using List.all_eq_true.1 hall t hm)⟩)
    (by kernel_rfl)

end Go.Proofs.YthndnkafckapnaaGreatDoor
