/-
  DERIVED. GIVEN WITH THE SEED: THE CARDS: each row of YtmihponoillihaaGreatDoorRows.lean that lists a variable, with what it lists TIED to the program's text (the seventh form; the later family's looks); each row that meets fmt, with fmt's text TOLD by the authors' own Lean function (tested against real Go, not proved from fmt's source: count such statements apart). THE CARD IS WHAT COUNTS. Prove the row's statement (the work); the ties are given (YtmihponoillihaaGreatDoorTie.lean); close each card by the builder's one call (the guide's Derived/Test/ToyasCard.lean, 'card_holds'). Laid BY PROGRAM, IN A SANDBOX (cutbox-door.mjs). By AI agents, Wed Nov 11 2026. No macro, syntax, notation, axiom, sorry.
-/
import Derived.Test.YtmihponoillihaaGreatDoorRows
import GoSem.ClaimSeven
namespace Go.Proofs.YtmihponoillihaaGreatDoor
namespace Rows

/-- THE TIED CARD OF 'laws.FnLogTorn'. -/
def fnLogTornCard : Claim7 := { stood := { row := fnLogTornRow, standIns := [], harness := (true, "2babdb2d94baf4ee2b30228363a8f200d7119ec6f88878aa71fc4179e6e9343a"), looks := true }, kinds := [], alts := [], laidByText := true, laidKinds := [.data, .data, .data, .data, .sentinel, .pinned], laidTests := true, laidLooks := .later }
def FnLogTornCardSaid : Prop := Claim7.holds Tryz.pinned (.plain (OpenSpec.ofChange fnLogTornSpec)) fnLogTornCard

/-- THE TIED CARD OF 'laws.FnLogGet'. -/
def fnLogGetCard : Claim7 := { stood := { row := fnLogGetRow, standIns := [], harness := (true, "2babdb2d94baf4ee2b30228363a8f200d7119ec6f88878aa71fc4179e6e9343a"), looks := true }, kinds := [], alts := [], laidByText := true, laidKinds := [.data, .data, .data, .data, .sentinel, .pinned], laidTests := true, laidLooks := .later }
def FnLogGetCardSaid : Prop := Claim7.holds Tryz.pinned (.plain (OpenSpec.ofChange fnLogGetSpec)) fnLogGetCard

/-- THE TIED CARD OF 'laws.FnExactBaseOk'. -/
def fnExactBaseOkCard : Claim7 := { stood := { row := fnExactBaseOkRow, standIns := [], harness := (true, "2babdb2d94baf4ee2b30228363a8f200d7119ec6f88878aa71fc4179e6e9343a"), looks := true }, kinds := [], alts := [], laidByText := true, laidKinds := [.handle], laidTests := true, laidLooks := .later }
def FnExactBaseOkCardSaid : Prop := Claim7.holds Tryz.pinned (.plain (OpenSpec.ofChange fnExactBaseOkSpec)) fnExactBaseOkCard

/-- THE TIED CARD OF 'laws.FnAskRule'. -/
def fnAskRuleCard : Claim7 := { stood := { row := fnAskRuleRow, standIns := [], harness := (true, "2babdb2d94baf4ee2b30228363a8f200d7119ec6f88878aa71fc4179e6e9343a"), looks := true }, kinds := [], alts := [], laidByText := true, laidKinds := [.handle], laidTests := true, laidLooks := .later }
def FnAskRuleCardSaid : Prop := Claim7.holds Tryz.pinned (.plain (OpenSpec.ofChange fnAskRuleSpec)) fnAskRuleCard

/-- THE SECOND FORM's CARD OF 'laws.FnLogTorn'. -/
def fnLogTornUptoCard : Claim7 := { stood := { row := fnLogTornUptoRow, standIns := [], harness := (true, "2babdb2d94baf4ee2b30228363a8f200d7119ec6f88878aa71fc4179e6e9343a"), looks := true }, kinds := [], alts := [], laidByText := true, laidKinds := [.data, .data, .data, .data, .sentinel, .pinned], laidTests := true, laidLooks := .later }
def FnLogTornUptoCardSaid : Prop := Claim7.holds Tryz.pinned (.plain (OpenSpec.upto fnLogTornSpec)) fnLogTornUptoCard

/-- THE SECOND FORM's CARD OF 'laws.FnLogGet'. -/
def fnLogGetUptoCard : Claim7 := { stood := { row := fnLogGetUptoRow, standIns := [], harness := (true, "2babdb2d94baf4ee2b30228363a8f200d7119ec6f88878aa71fc4179e6e9343a"), looks := true }, kinds := [], alts := [], laidByText := true, laidKinds := [.data, .data, .data, .data, .sentinel, .pinned], laidTests := true, laidLooks := .later }
def FnLogGetUptoCardSaid : Prop := Claim7.holds Tryz.pinned (.plain (OpenSpec.upto fnLogGetSpec)) fnLogGetUptoCard

/-- THE SECOND FORM's CARD OF 'laws.FnExactBaseOk'. -/
def fnExactBaseOkUptoCard : Claim7 := { stood := { row := fnExactBaseOkUptoRow, standIns := [], harness := (true, "2babdb2d94baf4ee2b30228363a8f200d7119ec6f88878aa71fc4179e6e9343a"), looks := true }, kinds := [], alts := [], laidByText := true, laidKinds := [.handle], laidTests := true, laidLooks := .later }
def FnExactBaseOkUptoCardSaid : Prop := Claim7.holds Tryz.pinned (.plain (OpenSpec.upto fnExactBaseOkSpec)) fnExactBaseOkUptoCard

/-- THE SECOND FORM's CARD OF 'laws.FnAskRule'. -/
def fnAskRuleUptoCard : Claim7 := { stood := { row := fnAskRuleUptoRow, standIns := [], harness := (true, "2babdb2d94baf4ee2b30228363a8f200d7119ec6f88878aa71fc4179e6e9343a"), looks := true }, kinds := [], alts := [], laidByText := true, laidKinds := [.handle], laidTests := true, laidLooks := .later }
def FnAskRuleUptoCardSaid : Prop := Claim7.holds Tryz.pinned (.plain (OpenSpec.upto fnAskRuleSpec)) fnAskRuleUptoCard
end Rows
end Go.Proofs.YtmihponoillihaaGreatDoor
