/-
  DERIVED. GIVEN WITH THE SEED: THE CARDS: each row of YthiflhkcpanaaaaGreatDoorRows.lean that lists a variable, with what it lists TIED to the program's text (the seventh form; the later family's looks); each row that meets fmt, with fmt's text TOLD by the authors' own Lean function (tested against real Go, not proved from fmt's source: count such statements apart). THE CARD IS WHAT COUNTS. Prove the row's statement (the work); the ties are given (YthiflhkcpanaaaaGreatDoorTie.lean); close each card by the builder's one call (the guide's Derived/Test/ToyasCard.lean, 'card_holds'). Laid BY PROGRAM, IN A SANDBOX (cutbox-door.mjs). By AI agents, Wed Nov 11 2026. No macro, syntax, notation, axiom, sorry.
-/
import Derived.Test.YthiflhkcpanaaaaGreatDoorRows
import GoSem.ClaimSeven
namespace Go.Proofs.YthiflhkcpanaaaaGreatDoor
namespace Rows

/-- THE TIED CARD OF 'laws.FnBaseAt'. -/
def fnBaseAtCard : Claim7 := { stood := { row := fnBaseAtRow, standIns := [], harness := (true, "f24991978e6295c894a890655e0ecc553aa05473c15a0777228fe7461f33319a"), looks := true }, kinds := [], alts := [], laidByText := true, laidKinds := [.handle], laidTests := true, laidLooks := .later }
def FnBaseAtCardSaid : Prop := Claim7.holds Tryz.pinned (.plain (OpenSpec.ofChange fnBaseAtSpec)) fnBaseAtCard

/-- THE TIED CARD OF 'laws.FnExactTxnOk'. -/
def fnExactTxnOkCard : Claim7 := { stood := { row := fnExactTxnOkRow, standIns := [], harness := (true, "f24991978e6295c894a890655e0ecc553aa05473c15a0777228fe7461f33319a"), looks := true }, kinds := [], alts := [], laidByText := true, laidKinds := [.handle], laidTests := true, laidLooks := .later }
def FnExactTxnOkCardSaid : Prop := Claim7.holds Tryz.pinned (.plain (OpenSpec.ofChange fnExactTxnOkSpec)) fnExactTxnOkCard

/-- THE TIED CARD OF 'laws.FnExactTxnSees'. -/
def fnExactTxnSeesCard : Claim7 := { stood := { row := fnExactTxnSeesRow, standIns := [], harness := (true, "f24991978e6295c894a890655e0ecc553aa05473c15a0777228fe7461f33319a"), looks := true }, kinds := [], alts := [], laidByText := true, laidKinds := [.handle], laidTests := true, laidLooks := .later }
def FnExactTxnSeesCardSaid : Prop := Claim7.holds Tryz.pinned (.plain (OpenSpec.ofChange fnExactTxnSeesSpec)) fnExactTxnSeesCard

/-- THE TIED CARD OF 'laws.FnExactTxnAdd'. -/
def fnExactTxnAddCard : Claim7 := { stood := { row := fnExactTxnAddRow, standIns := [], harness := (true, "f24991978e6295c894a890655e0ecc553aa05473c15a0777228fe7461f33319a"), looks := true }, kinds := [], alts := [], laidByText := true, laidKinds := [.handle], laidTests := true, laidLooks := .later }
def FnExactTxnAddCardSaid : Prop := Claim7.holds Tryz.pinned (.plain (OpenSpec.ofChange fnExactTxnAddSpec)) fnExactTxnAddCard

/-- THE TIED CARD OF 'laws.FnExactTxnGone'. -/
def fnExactTxnGoneCard : Claim7 := { stood := { row := fnExactTxnGoneRow, standIns := [], harness := (true, "f24991978e6295c894a890655e0ecc553aa05473c15a0777228fe7461f33319a"), looks := true }, kinds := [], alts := [], laidByText := true, laidKinds := [.handle], laidTests := true, laidLooks := .later }
def FnExactTxnGoneCardSaid : Prop := Claim7.holds Tryz.pinned (.plain (OpenSpec.ofChange fnExactTxnGoneSpec)) fnExactTxnGoneCard

/-- THE TIED CARD OF 'laws.FnExactTxnAsk'. -/
def fnExactTxnAskCard : Claim7 := { stood := { row := fnExactTxnAskRow, standIns := [], harness := (true, "f24991978e6295c894a890655e0ecc553aa05473c15a0777228fe7461f33319a"), looks := true }, kinds := [], alts := [], laidByText := true, laidKinds := [.handle], laidTests := true, laidLooks := .later }
def FnExactTxnAskCardSaid : Prop := Claim7.holds Tryz.pinned (.plain (OpenSpec.ofChange fnExactTxnAskSpec)) fnExactTxnAskCard

/-- THE TIED CARD OF 'laws.FnExactTxnEnd'. -/
def fnExactTxnEndCard : Claim7 := { stood := { row := fnExactTxnEndRow, standIns := [], harness := (true, "f24991978e6295c894a890655e0ecc553aa05473c15a0777228fe7461f33319a"), looks := true }, kinds := [], alts := [], laidByText := true, laidKinds := [.handle], laidTests := true, laidLooks := .later }
def FnExactTxnEndCardSaid : Prop := Claim7.holds Tryz.pinned (.plain (OpenSpec.ofChange fnExactTxnEndSpec)) fnExactTxnEndCard

/-- THE SECOND FORM's CARD OF 'laws.FnBaseAt'. -/
def fnBaseAtUptoCard : Claim7 := { stood := { row := fnBaseAtUptoRow, standIns := [], harness := (true, "f24991978e6295c894a890655e0ecc553aa05473c15a0777228fe7461f33319a"), looks := true }, kinds := [], alts := [], laidByText := true, laidKinds := [.handle], laidTests := true, laidLooks := .later }
def FnBaseAtUptoCardSaid : Prop := Claim7.holds Tryz.pinned (.plain (OpenSpec.upto fnBaseAtSpec)) fnBaseAtUptoCard

/-- THE SECOND FORM's CARD OF 'laws.FnExactTxnOk'. -/
def fnExactTxnOkUptoCard : Claim7 := { stood := { row := fnExactTxnOkUptoRow, standIns := [], harness := (true, "f24991978e6295c894a890655e0ecc553aa05473c15a0777228fe7461f33319a"), looks := true }, kinds := [], alts := [], laidByText := true, laidKinds := [.handle], laidTests := true, laidLooks := .later }
def FnExactTxnOkUptoCardSaid : Prop := Claim7.holds Tryz.pinned (.plain (OpenSpec.upto fnExactTxnOkSpec)) fnExactTxnOkUptoCard

/-- THE SECOND FORM's CARD OF 'laws.FnExactTxnSees'. -/
def fnExactTxnSeesUptoCard : Claim7 := { stood := { row := fnExactTxnSeesUptoRow, standIns := [], harness := (true, "f24991978e6295c894a890655e0ecc553aa05473c15a0777228fe7461f33319a"), looks := true }, kinds := [], alts := [], laidByText := true, laidKinds := [.handle], laidTests := true, laidLooks := .later }
def FnExactTxnSeesUptoCardSaid : Prop := Claim7.holds Tryz.pinned (.plain (OpenSpec.upto fnExactTxnSeesSpec)) fnExactTxnSeesUptoCard

/-- THE SECOND FORM's CARD OF 'laws.FnExactTxnAdd'. -/
def fnExactTxnAddUptoCard : Claim7 := { stood := { row := fnExactTxnAddUptoRow, standIns := [], harness := (true, "f24991978e6295c894a890655e0ecc553aa05473c15a0777228fe7461f33319a"), looks := true }, kinds := [], alts := [], laidByText := true, laidKinds := [.handle], laidTests := true, laidLooks := .later }
def FnExactTxnAddUptoCardSaid : Prop := Claim7.holds Tryz.pinned (.plain (OpenSpec.upto fnExactTxnAddSpec)) fnExactTxnAddUptoCard

/-- THE SECOND FORM's CARD OF 'laws.FnExactTxnGone'. -/
def fnExactTxnGoneUptoCard : Claim7 := { stood := { row := fnExactTxnGoneUptoRow, standIns := [], harness := (true, "f24991978e6295c894a890655e0ecc553aa05473c15a0777228fe7461f33319a"), looks := true }, kinds := [], alts := [], laidByText := true, laidKinds := [.handle], laidTests := true, laidLooks := .later }
def FnExactTxnGoneUptoCardSaid : Prop := Claim7.holds Tryz.pinned (.plain (OpenSpec.upto fnExactTxnGoneSpec)) fnExactTxnGoneUptoCard

/-- THE SECOND FORM's CARD OF 'laws.FnExactTxnAsk'. -/
def fnExactTxnAskUptoCard : Claim7 := { stood := { row := fnExactTxnAskUptoRow, standIns := [], harness := (true, "f24991978e6295c894a890655e0ecc553aa05473c15a0777228fe7461f33319a"), looks := true }, kinds := [], alts := [], laidByText := true, laidKinds := [.handle], laidTests := true, laidLooks := .later }
def FnExactTxnAskUptoCardSaid : Prop := Claim7.holds Tryz.pinned (.plain (OpenSpec.upto fnExactTxnAskSpec)) fnExactTxnAskUptoCard

/-- THE SECOND FORM's CARD OF 'laws.FnExactTxnEnd'. -/
def fnExactTxnEndUptoCard : Claim7 := { stood := { row := fnExactTxnEndUptoRow, standIns := [], harness := (true, "f24991978e6295c894a890655e0ecc553aa05473c15a0777228fe7461f33319a"), looks := true }, kinds := [], alts := [], laidByText := true, laidKinds := [.handle], laidTests := true, laidLooks := .later }
def FnExactTxnEndUptoCardSaid : Prop := Claim7.holds Tryz.pinned (.plain (OpenSpec.upto fnExactTxnEndSpec)) fnExactTxnEndUptoCard
end Rows
end Go.Proofs.YthiflhkcpanaaaaGreatDoor
