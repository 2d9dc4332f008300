/-
  DERIVED. GIVEN WITH THE SEED: THE CARDS: each row of YthdojieomhighaaGreatDoorRows.lean that lists a variable, with what it lists TIED to the program's text (the seventh form; the later family's looks); each row that meets fmt, with fmt's text TOLD by the authors' own Lean function (tested against real Go, not proved from fmt's source: count such statements apart). THE CARD IS WHAT COUNTS. Prove the row's statement (the work); the ties are given (YthdojieomhighaaGreatDoorTie.lean); close each card by the builder's one call (the guide's Derived/Test/ToyasCard.lean, 'card_holds'). Laid BY PROGRAM, IN A SANDBOX (cutbox-door.mjs). By AI agents, Wed Nov 11 2026. No macro, syntax, notation, axiom, sorry.
-/
import Derived.Test.YthdojieomhighaaGreatDoorRows
import GoSem.ClaimSeven
namespace Go.Proofs.YthdojieomhighaaGreatDoor
namespace Rows

/-- THE TIED CARD OF 'laws.FnExactBaseOk'. -/
def fnExactBaseOkCard : Claim7 := { stood := { row := fnExactBaseOkRow, standIns := [], harness := (true, "716a1bbada85004e6b2427beb1733e4d3f3d684104e8f0391f6013de4c71cca0"), looks := true }, kinds := [], alts := [], laidByText := true, laidKinds := [.handle], laidTests := true, laidLooks := .later }
def FnExactBaseOkCardSaid : Prop := Claim7.holds Tryz.pinned (.plain (OpenSpec.ofChange fnExactBaseOkSpec)) fnExactBaseOkCard

/-- THE TIED CARD OF 'laws.FnAskRule'. -/
def fnAskRuleCard : Claim7 := { stood := { row := fnAskRuleRow, standIns := [], harness := (true, "716a1bbada85004e6b2427beb1733e4d3f3d684104e8f0391f6013de4c71cca0"), looks := true }, kinds := [], alts := [], laidByText := true, laidKinds := [.handle], laidTests := true, laidLooks := .later }
def FnAskRuleCardSaid : Prop := Claim7.holds Tryz.pinned (.plain (OpenSpec.ofChange fnAskRuleSpec)) fnAskRuleCard

/-- THE TIED CARD OF 'laws.FnBaseAt'. -/
def fnBaseAtCard : Claim7 := { stood := { row := fnBaseAtRow, standIns := [], harness := (true, "716a1bbada85004e6b2427beb1733e4d3f3d684104e8f0391f6013de4c71cca0"), looks := true }, kinds := [], alts := [], laidByText := true, laidKinds := [.handle], laidTests := true, laidLooks := .later }
def FnBaseAtCardSaid : Prop := Claim7.holds Tryz.pinned (.plain (OpenSpec.ofChange fnBaseAtSpec)) fnBaseAtCard

/-- THE TIED CARD OF 'laws.FnExactTxnBegin'. -/
def fnExactTxnBeginCard : Claim7 := { stood := { row := fnExactTxnBeginRow, standIns := [], harness := (true, "716a1bbada85004e6b2427beb1733e4d3f3d684104e8f0391f6013de4c71cca0"), looks := true }, kinds := [], alts := [], laidByText := true, laidKinds := [.handle], laidTests := true, laidLooks := .later }
def FnExactTxnBeginCardSaid : Prop := Claim7.holds Tryz.pinned (.plain (OpenSpec.ofChange fnExactTxnBeginSpec)) fnExactTxnBeginCard

/-- THE TIED CARD OF 'laws.FnExactBaseAt'. -/
def fnExactBaseAtCard : Claim7 := { stood := { row := fnExactBaseAtRow, standIns := [], harness := (true, "716a1bbada85004e6b2427beb1733e4d3f3d684104e8f0391f6013de4c71cca0"), looks := true }, kinds := [], alts := [], laidByText := true, laidKinds := [.handle], laidTests := true, laidLooks := .later }
def FnExactBaseAtCardSaid : Prop := Claim7.holds Tryz.pinned (.plain (OpenSpec.ofChange fnExactBaseAtSpec)) fnExactBaseAtCard

/-- THE SECOND FORM's CARD OF 'laws.FnExactBaseOk'. -/
def fnExactBaseOkUptoCard : Claim7 := { stood := { row := fnExactBaseOkUptoRow, standIns := [], harness := (true, "716a1bbada85004e6b2427beb1733e4d3f3d684104e8f0391f6013de4c71cca0"), looks := true }, kinds := [], alts := [], laidByText := true, laidKinds := [.handle], laidTests := true, laidLooks := .later }
def FnExactBaseOkUptoCardSaid : Prop := Claim7.holds Tryz.pinned (.plain (OpenSpec.upto fnExactBaseOkSpec)) fnExactBaseOkUptoCard

/-- THE SECOND FORM's CARD OF 'laws.FnAskRule'. -/
def fnAskRuleUptoCard : Claim7 := { stood := { row := fnAskRuleUptoRow, standIns := [], harness := (true, "716a1bbada85004e6b2427beb1733e4d3f3d684104e8f0391f6013de4c71cca0"), looks := true }, kinds := [], alts := [], laidByText := true, laidKinds := [.handle], laidTests := true, laidLooks := .later }
def FnAskRuleUptoCardSaid : Prop := Claim7.holds Tryz.pinned (.plain (OpenSpec.upto fnAskRuleSpec)) fnAskRuleUptoCard

/-- THE SECOND FORM's CARD OF 'laws.FnBaseAt'. -/
def fnBaseAtUptoCard : Claim7 := { stood := { row := fnBaseAtUptoRow, standIns := [], harness := (true, "716a1bbada85004e6b2427beb1733e4d3f3d684104e8f0391f6013de4c71cca0"), looks := true }, kinds := [], alts := [], laidByText := true, laidKinds := [.handle], laidTests := true, laidLooks := .later }
def FnBaseAtUptoCardSaid : Prop := Claim7.holds Tryz.pinned (.plain (OpenSpec.upto fnBaseAtSpec)) fnBaseAtUptoCard

/-- THE SECOND FORM's CARD OF 'laws.FnExactTxnBegin'. -/
def fnExactTxnBeginUptoCard : Claim7 := { stood := { row := fnExactTxnBeginUptoRow, standIns := [], harness := (true, "716a1bbada85004e6b2427beb1733e4d3f3d684104e8f0391f6013de4c71cca0"), looks := true }, kinds := [], alts := [], laidByText := true, laidKinds := [.handle], laidTests := true, laidLooks := .later }
def FnExactTxnBeginUptoCardSaid : Prop := Claim7.holds Tryz.pinned (.plain (OpenSpec.upto fnExactTxnBeginSpec)) fnExactTxnBeginUptoCard

/-- THE SECOND FORM's CARD OF 'laws.FnExactBaseAt'. -/
def fnExactBaseAtUptoCard : Claim7 := { stood := { row := fnExactBaseAtUptoRow, standIns := [], harness := (true, "716a1bbada85004e6b2427beb1733e4d3f3d684104e8f0391f6013de4c71cca0"), looks := true }, kinds := [], alts := [], laidByText := true, laidKinds := [.handle], laidTests := true, laidLooks := .later }
def FnExactBaseAtUptoCardSaid : Prop := Claim7.holds Tryz.pinned (.plain (OpenSpec.upto fnExactBaseAtSpec)) fnExactBaseAtUptoCard
end Rows
end Go.Proofs.YthdojieomhighaaGreatDoor
