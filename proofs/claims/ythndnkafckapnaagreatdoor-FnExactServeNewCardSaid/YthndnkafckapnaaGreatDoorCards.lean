/-
  DERIVED. GIVEN WITH THE SEED: THE CARDS: each row of YthndnkafckapnaaGreatDoorRows.lean that lists a variable, with what it lists TIED to the program's text (the seventh form; the later family's looks); each row that meets fmt, with fmt's text TOLD by the authors' own Lean function (tested against real Go, not proved from fmt's source: count such statements apart). THE CARD IS WHAT COUNTS. Prove the row's statement (the work); the ties are given (YthndnkafckapnaaGreatDoorTie.lean); close each card by the builder's one call (the guide's Derived/Test/ToyasCard.lean, 'card_holds'). Laid BY PROGRAM, IN A SANDBOX (cutbox-door.mjs). By AI agents, Wed Nov 11 2026. No macro, syntax, notation, axiom, sorry.
-/
import Derived.Test.YthndnkafckapnaaGreatDoorRows
import GoSem.ClaimSeven
namespace Go.Proofs.YthndnkafckapnaaGreatDoor
namespace Rows

/-- THE TIED CARD OF 'laws.FnChangeText'. -/
def fnChangeTextCard : Claim7 := { stood := { row := fnChangeTextRow, standIns := [], harness := (true, "736a6d1a4dff6e7b42d09b5a7c22d2fa88077401d5d452fe0ba53f68547d902f"), looks := true }, kinds := [], alts := [], laidByText := true, laidKinds := [.data, .pinned], laidTests := true, laidLooks := .later }
def FnChangeTextCardSaid : Prop := Claim7.holds Tryz.pinned (.plain (OpenSpec.ofChange fnChangeTextSpec)) fnChangeTextCard

/-- THE TIED CARD OF 'laws.FnExactBaseNew'. -/
def fnExactBaseNewCard : Claim7 := { stood := { row := fnExactBaseNewRow, standIns := [], harness := (true, "736a6d1a4dff6e7b42d09b5a7c22d2fa88077401d5d452fe0ba53f68547d902f"), looks := true }, kinds := [], alts := [], laidByText := true, laidKinds := [.handle], laidTests := true, laidLooks := .later }
def FnExactBaseNewCardSaid : Prop := Claim7.holds Tryz.pinned (.plain (OpenSpec.ofChange fnExactBaseNewSpec)) fnExactBaseNewCard

/-- THE TIED CARD OF 'laws.FnExactServeNew'. -/
def fnExactServeNewCard : Claim7 := { stood := { row := fnExactServeNewRow, standIns := [], harness := (true, "736a6d1a4dff6e7b42d09b5a7c22d2fa88077401d5d452fe0ba53f68547d902f"), looks := true }, kinds := [], alts := [], laidByText := true, laidKinds := [.handle], laidTests := true, laidLooks := .later }
def FnExactServeNewCardSaid : Prop := Claim7.holds Tryz.pinned (.plain (OpenSpec.ofChange fnExactServeNewSpec)) fnExactServeNewCard

/-- THE TIED CARD OF 'laws.FnExactLogGet'. -/
def fnExactLogGetCard : Claim7 := { stood := { row := fnExactLogGetRow, standIns := [], harness := (true, "736a6d1a4dff6e7b42d09b5a7c22d2fa88077401d5d452fe0ba53f68547d902f"), looks := true }, kinds := [], alts := [], laidByText := true, laidKinds := [.data, .data, .data, .data, .sentinel, .pinned], laidTests := true, laidLooks := .later }
def FnExactLogGetCardSaid : Prop := Claim7.holds Tryz.pinned (.plain (OpenSpec.ofChange fnExactLogGetSpec)) fnExactLogGetCard

/-- THE SECOND FORM's CARD OF 'laws.FnChangeText'. -/
def fnChangeTextUptoCard : Claim7 := { stood := { row := fnChangeTextUptoRow, standIns := [], harness := (true, "736a6d1a4dff6e7b42d09b5a7c22d2fa88077401d5d452fe0ba53f68547d902f"), looks := true }, kinds := [], alts := [], laidByText := true, laidKinds := [.data, .pinned], laidTests := true, laidLooks := .later }
def FnChangeTextUptoCardSaid : Prop := Claim7.holds Tryz.pinned (.plain (OpenSpec.upto fnChangeTextSpec)) fnChangeTextUptoCard

/-- THE SECOND FORM's CARD OF 'laws.FnExactBaseNew'. -/
def fnExactBaseNewUptoCard : Claim7 := { stood := { row := fnExactBaseNewUptoRow, standIns := [], harness := (true, "736a6d1a4dff6e7b42d09b5a7c22d2fa88077401d5d452fe0ba53f68547d902f"), looks := true }, kinds := [], alts := [], laidByText := true, laidKinds := [.handle], laidTests := true, laidLooks := .later }
def FnExactBaseNewUptoCardSaid : Prop := Claim7.holds Tryz.pinned (.plain (OpenSpec.upto fnExactBaseNewSpec)) fnExactBaseNewUptoCard

/-- THE SECOND FORM's CARD OF 'laws.FnExactServeNew'. -/
def fnExactServeNewUptoCard : Claim7 := { stood := { row := fnExactServeNewUptoRow, standIns := [], harness := (true, "736a6d1a4dff6e7b42d09b5a7c22d2fa88077401d5d452fe0ba53f68547d902f"), looks := true }, kinds := [], alts := [], laidByText := true, laidKinds := [.handle], laidTests := true, laidLooks := .later }
def FnExactServeNewUptoCardSaid : Prop := Claim7.holds Tryz.pinned (.plain (OpenSpec.upto fnExactServeNewSpec)) fnExactServeNewUptoCard

/-- THE SECOND FORM's CARD OF 'laws.FnExactLogGet'. -/
def fnExactLogGetUptoCard : Claim7 := { stood := { row := fnExactLogGetUptoRow, standIns := [], harness := (true, "736a6d1a4dff6e7b42d09b5a7c22d2fa88077401d5d452fe0ba53f68547d902f"), looks := true }, kinds := [], alts := [], laidByText := true, laidKinds := [.data, .data, .data, .data, .sentinel, .pinned], laidTests := true, laidLooks := .later }
def FnExactLogGetUptoCardSaid : Prop := Claim7.holds Tryz.pinned (.plain (OpenSpec.upto fnExactLogGetSpec)) fnExactLogGetUptoCard
end Rows
end Go.Proofs.YthndnkafckapnaaGreatDoor
