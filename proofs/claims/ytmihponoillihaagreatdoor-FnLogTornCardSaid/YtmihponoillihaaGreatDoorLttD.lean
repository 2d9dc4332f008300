/- What the card asks of the text. -/
import Derived.Test.YtmihponoillihaaGreatDoorCards
import Derived.ProofKit
import Derived.ChangeSame
import Derived.WideKeyArgs
namespace Go.Proofs.YtmihponoillihaaGreatDoor
open Go Go.RowKit Go.ChangeShapes Go.WideShapes Go.ChangeAt
theorem lt_word : Rows.fnLogTornRow.wfByText (OpenSpec.ofChange Rows.fnLogTornSpec) = true := by kernel_rfl
theorem lt_main : Tryz.pinned.checked.prog.mainIs = some (true, "2babdb2d94baf4ee2b30228363a8f200d7119ec6f88878aa71fc4179e6e9343a".toList) := by kernel_rfl
theorem lt_looks : true = Tryz.pinned.checked.prog.looks [] := by kernel_rfl
theorem lt_goes : false = Rows.fnLogTornRow.goesBy Tryz.pinned.checked.prog := by kernel_rfl
theorem lt_func : Tryz.pinned.checked.prog.funcNamed Rows.fnLogTornRow.func = some 3 := by kernel_rfl
end Go.Proofs.YtmihponoillihaaGreatDoor
