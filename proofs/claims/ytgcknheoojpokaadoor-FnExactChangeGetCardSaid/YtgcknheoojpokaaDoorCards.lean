/-
  DERIVED. GIVEN WITH THE SEED: THE CARDS: each row of YtgcknheoojpokaaDoorRows.lean that lists a variable, with what it lists TIED to the program's text (the seventh form; the later family's looks); each row that meets fmt, with fmt's text TOLD by the authors' own Lean function (tested against real Go, not proved from fmt's source: count such statements apart). THE CARD IS WHAT COUNTS. Prove the row's statement (the work); the ties are given (YtgcknheoojpokaaDoorTie.lean); close each card by the builder's one call (the guide's Derived/Test/ToyasCard.lean, 'card_holds'). Laid BY PROGRAM, IN A SANDBOX (cutbox-door.mjs). By AI agents, Wed Nov 11 2026. No macro, syntax, notation, axiom, sorry.
-/
import Derived.Test.YtgcknheoojpokaaDoorRows
import GoSem.ClaimSeven
namespace Go.Proofs.YtgcknheoojpokaaDoor
namespace Rows

/-- THE TIED CARD OF 'laws.FnExactLogPut'. -/
def fnExactLogPutCard : Claim7 := { stood := { row := fnExactLogPutRow, standIns := [], harness := (true, "75d530749fdfda59e3a25ed6b2cc94c63446dd89f3e9f1f0c1a74d7c1d6bfac8"), looks := true }, kinds := [], alts := [], laidByText := true, laidKinds := [.data, .data, .data], laidTests := true, laidLooks := .later }
def FnExactLogPutCardSaid : Prop := Claim7.holds Tryd.pinned (.plain (OpenSpec.ofChange fnExactLogPutSpec)) fnExactLogPutCard

/-- THE TIED CARD OF 'laws.FnExactChangeGet'. -/
def fnExactChangeGetCard : Claim7 := { stood := { row := fnExactChangeGetRow, standIns := [], harness := (true, "75d530749fdfda59e3a25ed6b2cc94c63446dd89f3e9f1f0c1a74d7c1d6bfac8"), looks := true }, kinds := [], alts := [], laidByText := true, laidKinds := [.data, .pinned], laidTests := true, laidLooks := .later }
def FnExactChangeGetCardSaid : Prop := Claim7.holds Tryd.pinned (.plain (OpenSpec.ofChange fnExactChangeGetSpec)) fnExactChangeGetCard

/-- THE SECOND FORM's CARD OF 'laws.FnExactLogPut'. -/
def fnExactLogPutUptoCard : Claim7 := { stood := { row := fnExactLogPutUptoRow, standIns := [], harness := (true, "75d530749fdfda59e3a25ed6b2cc94c63446dd89f3e9f1f0c1a74d7c1d6bfac8"), looks := true }, kinds := [], alts := [], laidByText := true, laidKinds := [.data, .data, .data], laidTests := true, laidLooks := .later }
def FnExactLogPutUptoCardSaid : Prop := Claim7.holds Tryd.pinned (.plain (OpenSpec.upto fnExactLogPutSpec)) fnExactLogPutUptoCard

/-- THE SECOND FORM's CARD OF 'laws.FnExactChangeGet'. -/
def fnExactChangeGetUptoCard : Claim7 := { stood := { row := fnExactChangeGetUptoRow, standIns := [], harness := (true, "75d530749fdfda59e3a25ed6b2cc94c63446dd89f3e9f1f0c1a74d7c1d6bfac8"), looks := true }, kinds := [], alts := [], laidByText := true, laidKinds := [.data, .pinned], laidTests := true, laidLooks := .later }
def FnExactChangeGetUptoCardSaid : Prop := Claim7.holds Tryd.pinned (.plain (OpenSpec.upto fnExactChangeGetSpec)) fnExactChangeGetUptoCard
end Rows
end Go.Proofs.YtgcknheoojpokaaDoor
