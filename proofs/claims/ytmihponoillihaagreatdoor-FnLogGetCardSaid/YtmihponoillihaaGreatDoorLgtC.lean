/- What the row asks of the text. -/
import Derived.Test.YtmihponoillihaaGreatDoorRows
import Derived.ProofKit
import Derived.ChangeSame
import Derived.WideKeyArgs
namespace Go.Proofs.YtmihponoillihaaGreatDoor
open Go Go.RowKit Go.ChangeShapes Go.WideShapes Go.ChangeAt
theorem lg_wf : (Rows.fnLogGetRow.wf (OpenSpec.ofChange Rows.fnLogGetSpec) && laidOutB Tryz.pinned.checked.prog && mapsRowed Tryz.pinned.checked.prog) = true := by kernel_rfl
theorem lg_inPlace : (Rows.fnLogGetRow.inPlace == Tryz.pinned.checked.prog.inPlace 4) = true := by kernel_rfl
theorem lg_unfollowed : (Rows.fnLogGetRow.unfollowed == Tryz.pinned.checked.prog.unfollowed 4) = true := by kernel_rfl
theorem lg_recurses : (Rows.fnLogGetRow.recurses == Tryz.pinned.checked.prog.recurses 4) = true := by kernel_rfl
theorem lg_named : (Rows.fnLogGetRow.named == Tryz.pinned.checked.prog.varsNamed 4) = true := by kernel_rfl
theorem lg_closed : joinedFacts Tryz.pinned.checked.prog 4 Tryz.f4 Rows.fnLogGetSpec Rows.fnLogGetRow = true := by
 unfold joinedFacts; rw [lg_wf, lg_inPlace, lg_unfollowed, lg_recurses, lg_named]
 kernel_rfl
end Go.Proofs.YtmihponoillihaaGreatDoor
