/- What the card asks of the text. -/
import Derived.Test.YtmihponoillihaaGreatDoorCards
import Derived.ProofKit
import Derived.ChangeSame
import Derived.WideKeyArgs
namespace Go.Proofs.YtmihponoillihaaGreatDoor
open Go Go.RowKit Go.ChangeShapes Go.WideShapes Go.ChangeAt
theorem lg_word : Rows.fnLogGetRow.wfByText (OpenSpec.ofChange Rows.fnLogGetSpec) = true := by kernel_rfl
theorem lg_main : Tryz.pinned.checked.prog.mainIs = some (true, "2babdb2d94baf4ee2b30228363a8f200d7119ec6f88878aa71fc4179e6e9343a".toList) := by kernel_rfl
theorem lg_looks : true = Tryz.pinned.checked.prog.looks [] := by kernel_rfl
theorem lg_goes : false = Rows.fnLogGetRow.goesBy Tryz.pinned.checked.prog := by kernel_rfl
theorem lg_func : Tryz.pinned.checked.prog.funcNamed Rows.fnLogGetRow.func = some 4 := by kernel_rfl
end Go.Proofs.YtmihponoillihaaGreatDoor
