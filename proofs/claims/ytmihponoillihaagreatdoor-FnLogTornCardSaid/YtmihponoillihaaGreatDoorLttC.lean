/- What the row asks of the text. -/
import Derived.Test.YtmihponoillihaaGreatDoorRows
import Derived.ProofKit
import Derived.ChangeSame
import Derived.WideKeyArgs
namespace Go.Proofs.YtmihponoillihaaGreatDoor
open Go Go.RowKit Go.ChangeShapes Go.WideShapes Go.ChangeAt
theorem lt_wf : (Rows.fnLogTornRow.wf (OpenSpec.ofChange Rows.fnLogTornSpec) && laidOutB Tryz.pinned.checked.prog && mapsRowed Tryz.pinned.checked.prog) = true := by kernel_rfl
theorem lt_inPlace : (Rows.fnLogTornRow.inPlace == Tryz.pinned.checked.prog.inPlace 3) = true := by kernel_rfl
theorem lt_unfollowed : (Rows.fnLogTornRow.unfollowed == Tryz.pinned.checked.prog.unfollowed 3) = true := by kernel_rfl
theorem lt_recurses : (Rows.fnLogTornRow.recurses == Tryz.pinned.checked.prog.recurses 3) = true := by kernel_rfl
theorem lt_named : (Rows.fnLogTornRow.named == Tryz.pinned.checked.prog.varsNamed 3) = true := by kernel_rfl
theorem lt_closed : joinedFacts Tryz.pinned.checked.prog 3 Tryz.f3 Rows.fnLogTornSpec Rows.fnLogTornRow = true := by
 unfold joinedFacts; rw [lt_wf, lt_inPlace, lt_unfollowed, lt_recurses, lt_named]
 kernel_rfl
end Go.Proofs.YtmihponoillihaaGreatDoor
