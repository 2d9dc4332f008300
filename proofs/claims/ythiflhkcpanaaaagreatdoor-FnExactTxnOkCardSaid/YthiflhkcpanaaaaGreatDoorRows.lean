/-
  NARROWER THAN 'FOR EVERY INPUT', by the rows' own cells (each row's printed sentence says how): FnBaseAt: laid · FnExactTxnOk: laid · FnExactTxnSees: laid · FnExactTxnAdd: laid · FnExactTxnGone: laid · FnExactTxnAsk: laid · FnExactTxnEnd: laid.
  DERIVED. THE GIVEN ROWS OF THIS SEAT. 7 by the template 'for every input the law returns true; each argument reads behind the call as it read before'; 0 by the template 'total and deterministic' (their statements: YthiflhkcpanaaaaGreatDoorTotals.lean).
  GIVEN WITH THE SEED: the statements are not yours to turn. If you find one false, say at which input.
  Laid BY PROGRAM, IN A SANDBOX (cutbox-rows.mjs): the forced cells as the released guide's own fill.sh prints them over the translation 1cd49b35bf59b299… (all of the seat's roots in one cut). By AI agents, Wed Nov 11 2026. No macro, syntax, notation, axiom, sorry.
-/
import Derived.Test.YthiflhkcpanaaaaGreatDoorChecked
import GoSem.Claim
import GoSem.ClaimJoined
import GoSem.ClaimMapViews
import Derived.JoinedTies
import Derived.KernelRfl
namespace Go.Proofs.YthiflhkcpanaaaaGreatDoor
/- THE CELL 'sum', in the pinned program and in every row, IS THE sha256 OF THE DUMP (.gsa) THAT YthiflhkcpanaaaaGreatDoorProg.lean LOADS. Nothing in Lean hashes anything: it is a label: what it is worth is what the hold of that sum in a sandbox is worth. -/
noncomputable def Tryz.pinned : Pinned := { name := "ythiflhkcpanaaaagreatdoor", sum := "1cd49b35bf59b29927a2ccdd8849244abe36c8929878ab8701859963567fb3d2", checked := Tryz.checked }
namespace Rows
def none {H : Type} : Left H := { results := [], args := [] }

/- WHAT THE LISTED PACKAGE-LEVEL VARIABLES READ AS WHEN THE CALL BEGINS. Each datum BY PROGRAM (the guide's laid-datum.mjs) off the statement by which the dump's own 'gosem.cut.vars' lays the variable. In a bare row this is a premise. The card (YthiflhkcpanaaaaGreatDoorCards.lean) ties it to the program's text. -/
def laid_errors_errorType {H : Type} : DataW H := .iface "internal/reflectlite.rtype" (.agg [.ptr (.lit (.string [101, 114, 114, 111, 114]))])

/-- 'laws.FnBaseAt': WHATEVER THE INPUT: true; the input reads as it did. -/
def fnBaseAtSpec : ChangeSpec := { name := "fnBaseAt", fn := fun _ => fun
  | [d] => { results := [.lit (.bool true)], args := [d] }
  | _ => none }
def fnBaseAtRow : OpenClaim := { program := "ythiflhkcpanaaaagreatdoor", sum := "1cd49b35bf59b29927a2ccdd8849244abe36c8929878ab8701859963567fb3d2", func := "loop.example/springhead/laws.FnBaseAt", spec := "fnBaseAt", inPlace := ["internal/reflectlite.ValueOf", "(internal/reflectlite.Value).Type", "(internal/reflectlite.Value).IsNil", "internal/reflectlite.TypeOf", "(internal/reflectlite.Value).Elem", "(internal/reflectlite.Value).Set", "internal/bytealg.abigen_runtime_cmpstring", "internal/abi.NoEscape"], unfollowed := true, recurses := true, named := ["errors.errorType"], plainKeys := false, apart := false, laid := [("errors.errorType", laid_errors_errorType)] }
def FnBaseAtSaid : Prop := fnBaseAtRow.holds Tryz.pinned (OpenSpec.ofChange fnBaseAtSpec)

/-- ITS FALSE NEIGHBOUR: 'it returns false'. Refute it at one input. -/
def fnBaseAtWrong : ChangeSpec := { name := "fnBaseAt", fn := fun _ => fun
  | [d] => { results := [.lit (.bool false)], args := [d] }
  | _ => none }
def FnBaseAtWrongFalsely : Prop := fnBaseAtRow.holds Tryz.pinned (OpenSpec.ofChange fnBaseAtWrong)

/-- 'laws.FnExactTxnOk': WHATEVER THE INPUT: true; the input reads as it did. -/
def fnExactTxnOkSpec : ChangeSpec := { name := "fnExactTxnOk", fn := fun _ => fun
  | [d1, d2] => { results := [.lit (.bool true)], args := [d1, d2] }
  | _ => none }
def fnExactTxnOkRow : OpenClaim := { program := "ythiflhkcpanaaaagreatdoor", sum := "1cd49b35bf59b29927a2ccdd8849244abe36c8929878ab8701859963567fb3d2", func := "loop.example/springhead/laws.FnExactTxnOk", spec := "fnExactTxnOk", inPlace := ["internal/reflectlite.ValueOf", "(internal/reflectlite.Value).Type", "(internal/reflectlite.Value).IsNil", "internal/reflectlite.TypeOf", "(internal/reflectlite.Value).Elem", "(internal/reflectlite.Value).Set", "internal/bytealg.abigen_runtime_cmpstring", "internal/abi.NoEscape"], unfollowed := true, recurses := true, named := ["errors.errorType"], plainKeys := false, apart := false, laid := [("errors.errorType", laid_errors_errorType)] }
def FnExactTxnOkSaid : Prop := fnExactTxnOkRow.holds Tryz.pinned (OpenSpec.ofChange fnExactTxnOkSpec)

/-- ITS FALSE NEIGHBOUR: 'it returns false'. Refute it at one input. -/
def fnExactTxnOkWrong : ChangeSpec := { name := "fnExactTxnOk", fn := fun _ => fun
  | [d1, d2] => { results := [.lit (.bool false)], args := [d1, d2] }
  | _ => none }
def FnExactTxnOkWrongFalsely : Prop := fnExactTxnOkRow.holds Tryz.pinned (OpenSpec.ofChange fnExactTxnOkWrong)

/-- 'laws.FnExactTxnSees': WHATEVER THE INPUT: true; the input reads as it did. -/
def fnExactTxnSeesSpec : ChangeSpec := { name := "fnExactTxnSees", fn := fun _ => fun
  | [d1, d2] => { results := [.lit (.bool true)], args := [d1, d2] }
  | _ => none }
def fnExactTxnSeesRow : OpenClaim := { program := "ythiflhkcpanaaaagreatdoor", sum := "1cd49b35bf59b29927a2ccdd8849244abe36c8929878ab8701859963567fb3d2", func := "loop.example/springhead/laws.FnExactTxnSees", spec := "fnExactTxnSees", inPlace := ["internal/reflectlite.ValueOf", "(internal/reflectlite.Value).Type", "(internal/reflectlite.Value).IsNil", "internal/reflectlite.TypeOf", "(internal/reflectlite.Value).Elem", "(internal/reflectlite.Value).Set", "internal/bytealg.abigen_runtime_cmpstring", "internal/abi.NoEscape"], unfollowed := true, recurses := true, named := ["errors.errorType"], plainKeys := false, apart := false, laid := [("errors.errorType", laid_errors_errorType)] }
def FnExactTxnSeesSaid : Prop := fnExactTxnSeesRow.holds Tryz.pinned (OpenSpec.ofChange fnExactTxnSeesSpec)

/-- ITS FALSE NEIGHBOUR: 'it returns false'. Refute it at one input. -/
def fnExactTxnSeesWrong : ChangeSpec := { name := "fnExactTxnSees", fn := fun _ => fun
  | [d1, d2] => { results := [.lit (.bool false)], args := [d1, d2] }
  | _ => none }
def FnExactTxnSeesWrongFalsely : Prop := fnExactTxnSeesRow.holds Tryz.pinned (OpenSpec.ofChange fnExactTxnSeesWrong)

/-- 'laws.FnExactTxnAdd': WHATEVER THE INPUT: true; the input reads as it did. -/
def fnExactTxnAddSpec : ChangeSpec := { name := "fnExactTxnAdd", fn := fun _ => fun
  | [d1, d2, d3] => { results := [.lit (.bool true)], args := [d1, d2, d3] }
  | _ => none }
def fnExactTxnAddRow : OpenClaim := { program := "ythiflhkcpanaaaagreatdoor", sum := "1cd49b35bf59b29927a2ccdd8849244abe36c8929878ab8701859963567fb3d2", func := "loop.example/springhead/laws.FnExactTxnAdd", spec := "fnExactTxnAdd", inPlace := ["internal/reflectlite.ValueOf", "(internal/reflectlite.Value).Type", "(internal/reflectlite.Value).IsNil", "internal/reflectlite.TypeOf", "(internal/reflectlite.Value).Elem", "(internal/reflectlite.Value).Set", "internal/bytealg.abigen_runtime_cmpstring", "internal/abi.NoEscape"], unfollowed := true, recurses := true, named := ["errors.errorType"], plainKeys := false, apart := false, laid := [("errors.errorType", laid_errors_errorType)] }
def FnExactTxnAddSaid : Prop := fnExactTxnAddRow.holds Tryz.pinned (OpenSpec.ofChange fnExactTxnAddSpec)

/-- ITS FALSE NEIGHBOUR: 'it returns false'. Refute it at one input. -/
def fnExactTxnAddWrong : ChangeSpec := { name := "fnExactTxnAdd", fn := fun _ => fun
  | [d1, d2, d3] => { results := [.lit (.bool false)], args := [d1, d2, d3] }
  | _ => none }
def FnExactTxnAddWrongFalsely : Prop := fnExactTxnAddRow.holds Tryz.pinned (OpenSpec.ofChange fnExactTxnAddWrong)

/-- 'laws.FnExactTxnGone': WHATEVER THE INPUT: true; the input reads as it did. -/
def fnExactTxnGoneSpec : ChangeSpec := { name := "fnExactTxnGone", fn := fun _ => fun
  | [d1, d2, d3] => { results := [.lit (.bool true)], args := [d1, d2, d3] }
  | _ => none }
def fnExactTxnGoneRow : OpenClaim := { program := "ythiflhkcpanaaaagreatdoor", sum := "1cd49b35bf59b29927a2ccdd8849244abe36c8929878ab8701859963567fb3d2", func := "loop.example/springhead/laws.FnExactTxnGone", spec := "fnExactTxnGone", inPlace := ["internal/reflectlite.ValueOf", "(internal/reflectlite.Value).Type", "(internal/reflectlite.Value).IsNil", "internal/reflectlite.TypeOf", "(internal/reflectlite.Value).Elem", "(internal/reflectlite.Value).Set", "internal/bytealg.abigen_runtime_cmpstring", "internal/abi.NoEscape"], unfollowed := true, recurses := true, named := ["errors.errorType"], plainKeys := false, apart := false, laid := [("errors.errorType", laid_errors_errorType)] }
def FnExactTxnGoneSaid : Prop := fnExactTxnGoneRow.holds Tryz.pinned (OpenSpec.ofChange fnExactTxnGoneSpec)

/-- ITS FALSE NEIGHBOUR: 'it returns false'. Refute it at one input. -/
def fnExactTxnGoneWrong : ChangeSpec := { name := "fnExactTxnGone", fn := fun _ => fun
  | [d1, d2, d3] => { results := [.lit (.bool false)], args := [d1, d2, d3] }
  | _ => none }
def FnExactTxnGoneWrongFalsely : Prop := fnExactTxnGoneRow.holds Tryz.pinned (OpenSpec.ofChange fnExactTxnGoneWrong)

/-- 'laws.FnExactTxnAsk': WHATEVER THE INPUT: true; the input reads as it did. -/
def fnExactTxnAskSpec : ChangeSpec := { name := "fnExactTxnAsk", fn := fun _ => fun
  | [d1, d2, d3] => { results := [.lit (.bool true)], args := [d1, d2, d3] }
  | _ => none }
def fnExactTxnAskRow : OpenClaim := { program := "ythiflhkcpanaaaagreatdoor", sum := "1cd49b35bf59b29927a2ccdd8849244abe36c8929878ab8701859963567fb3d2", func := "loop.example/springhead/laws.FnExactTxnAsk", spec := "fnExactTxnAsk", inPlace := ["internal/reflectlite.ValueOf", "(internal/reflectlite.Value).Type", "(internal/reflectlite.Value).IsNil", "internal/reflectlite.TypeOf", "(internal/reflectlite.Value).Elem", "(internal/reflectlite.Value).Set", "internal/bytealg.abigen_runtime_cmpstring", "internal/abi.NoEscape"], unfollowed := true, recurses := true, named := ["errors.errorType"], plainKeys := false, apart := false, laid := [("errors.errorType", laid_errors_errorType)] }
def FnExactTxnAskSaid : Prop := fnExactTxnAskRow.holds Tryz.pinned (OpenSpec.ofChange fnExactTxnAskSpec)

/-- ITS FALSE NEIGHBOUR: 'it returns false'. Refute it at one input. -/
def fnExactTxnAskWrong : ChangeSpec := { name := "fnExactTxnAsk", fn := fun _ => fun
  | [d1, d2, d3] => { results := [.lit (.bool false)], args := [d1, d2, d3] }
  | _ => none }
def FnExactTxnAskWrongFalsely : Prop := fnExactTxnAskRow.holds Tryz.pinned (OpenSpec.ofChange fnExactTxnAskWrong)

/-- 'laws.FnExactTxnEnd': WHATEVER THE INPUT: true; the input reads as it did. -/
def fnExactTxnEndSpec : ChangeSpec := { name := "fnExactTxnEnd", fn := fun _ => fun
  | [d1, d2] => { results := [.lit (.bool true)], args := [d1, d2] }
  | _ => none }
def fnExactTxnEndRow : OpenClaim := { program := "ythiflhkcpanaaaagreatdoor", sum := "1cd49b35bf59b29927a2ccdd8849244abe36c8929878ab8701859963567fb3d2", func := "loop.example/springhead/laws.FnExactTxnEnd", spec := "fnExactTxnEnd", inPlace := ["internal/reflectlite.ValueOf", "(internal/reflectlite.Value).Type", "(internal/reflectlite.Value).IsNil", "internal/reflectlite.TypeOf", "(internal/reflectlite.Value).Elem", "(internal/reflectlite.Value).Set", "internal/bytealg.abigen_runtime_cmpstring", "internal/abi.NoEscape"], unfollowed := true, recurses := true, named := ["errors.errorType"], plainKeys := false, apart := false, laid := [("errors.errorType", laid_errors_errorType)] }
def FnExactTxnEndSaid : Prop := fnExactTxnEndRow.holds Tryz.pinned (OpenSpec.ofChange fnExactTxnEndSpec)

/-- ITS FALSE NEIGHBOUR: 'it returns false'. Refute it at one input. -/
def fnExactTxnEndWrong : ChangeSpec := { name := "fnExactTxnEnd", fn := fun _ => fun
  | [d1, d2] => { results := [.lit (.bool false)], args := [d1, d2] }
  | _ => none }
def FnExactTxnEndWrongFalsely : Prop := fnExactTxnEndRow.holds Tryz.pinned (OpenSpec.ofChange fnExactTxnEndWrong)

/- THE SECOND FORM. 'bulk': how many values and letters a reading holds, each counted each time it is reached (what is shared counts as often as it is met; a slice's spare places count too). A statement '..UptoSaid' is the law's where the arguments, and the package variables that the reading takes, are together of bulk at most 1048576: NARROWER than '..Said'. Prove '..Said' where nothing that the law and all that it calls make is longer than what came in: it says more and counts as full. Else prove '..UptoSaid'. A law counts once. -/
mutual
def uptoBulk {H : Type} : DataW H → Nat
  | .lit (.string bytes) => bytes.length + 1
  | .lit _ => 1
  | .nil => 1
  | .ptr d => uptoBulk d + 1
  | .slice elems spare => uptoBulkAll elems + uptoBulkAll spare + 1
  | .agg parts => uptoBulkAll parts + 1
  | .iface _ d => uptoBulk d + 1
  | .map entries => uptoBulkEntries entries + 1
  | .held _ => 1
def uptoBulkAll {H : Type} : List (DataW H) → Nat
  | [] => 0
  | d :: r => uptoBulk d + uptoBulkAll r
def uptoBulkEntries {H : Type} : List (Lit × DataW H) → Nat
  | [] => 0
  | x :: r => uptoBulkEntry x + uptoBulkEntries r
def uptoBulkEntry {H : Type} : Lit × DataW H → Nat
  | (.string bytes, d) => bytes.length + uptoBulk d + 1
  | (_, d) => uptoBulk d + 1
 end
def uptoSmall : (H : Type) → List (DataW H) → Bool := fun _ ds => decide (uptoBulkAll ds ≤ 1048576)
def OpenSpec.upto (s : _root_.Go.ChangeSpec) : _root_.Go.OpenSpec := { _root_.Go.OpenSpec.ofChange s with cond := some uptoSmall }

/-- 'laws.FnBaseAt', WHERE WHAT IT READS IS OF BULK AT MOST 1048576: true; the input reads as it did. -/
def fnBaseAtUptoRow : OpenClaim := { program := "ythiflhkcpanaaaagreatdoor", sum := "1cd49b35bf59b29927a2ccdd8849244abe36c8929878ab8701859963567fb3d2", func := "loop.example/springhead/laws.FnBaseAt", spec := "fnBaseAt", inPlace := ["internal/reflectlite.ValueOf", "(internal/reflectlite.Value).Type", "(internal/reflectlite.Value).IsNil", "internal/reflectlite.TypeOf", "(internal/reflectlite.Value).Elem", "(internal/reflectlite.Value).Set", "internal/bytealg.abigen_runtime_cmpstring", "internal/abi.NoEscape"], unfollowed := true, recurses := true, named := ["errors.errorType"], plainKeys := false, apart := false, laid := [("errors.errorType", laid_errors_errorType)], narrowed := true }
def FnBaseAtUptoSaid : Prop := fnBaseAtUptoRow.holds Tryz.pinned (OpenSpec.upto fnBaseAtSpec)

/-- 'laws.FnExactTxnOk', WHERE WHAT IT READS IS OF BULK AT MOST 1048576: true; the input reads as it did. -/
def fnExactTxnOkUptoRow : OpenClaim := { program := "ythiflhkcpanaaaagreatdoor", sum := "1cd49b35bf59b29927a2ccdd8849244abe36c8929878ab8701859963567fb3d2", func := "loop.example/springhead/laws.FnExactTxnOk", spec := "fnExactTxnOk", inPlace := ["internal/reflectlite.ValueOf", "(internal/reflectlite.Value).Type", "(internal/reflectlite.Value).IsNil", "internal/reflectlite.TypeOf", "(internal/reflectlite.Value).Elem", "(internal/reflectlite.Value).Set", "internal/bytealg.abigen_runtime_cmpstring", "internal/abi.NoEscape"], unfollowed := true, recurses := true, named := ["errors.errorType"], plainKeys := false, apart := false, laid := [("errors.errorType", laid_errors_errorType)], narrowed := true }
def FnExactTxnOkUptoSaid : Prop := fnExactTxnOkUptoRow.holds Tryz.pinned (OpenSpec.upto fnExactTxnOkSpec)

/-- 'laws.FnExactTxnSees', WHERE WHAT IT READS IS OF BULK AT MOST 1048576: true; the input reads as it did. -/
def fnExactTxnSeesUptoRow : OpenClaim := { program := "ythiflhkcpanaaaagreatdoor", sum := "1cd49b35bf59b29927a2ccdd8849244abe36c8929878ab8701859963567fb3d2", func := "loop.example/springhead/laws.FnExactTxnSees", spec := "fnExactTxnSees", inPlace := ["internal/reflectlite.ValueOf", "(internal/reflectlite.Value).Type", "(internal/reflectlite.Value).IsNil", "internal/reflectlite.TypeOf", "(internal/reflectlite.Value).Elem", "(internal/reflectlite.Value).Set", "internal/bytealg.abigen_runtime_cmpstring", "internal/abi.NoEscape"], unfollowed := true, recurses := true, named := ["errors.errorType"], plainKeys := false, apart := false, laid := [("errors.errorType", laid_errors_errorType)], narrowed := true }
def FnExactTxnSeesUptoSaid : Prop := fnExactTxnSeesUptoRow.holds Tryz.pinned (OpenSpec.upto fnExactTxnSeesSpec)

/-- 'laws.FnExactTxnAdd', WHERE WHAT IT READS IS OF BULK AT MOST 1048576: true; the input reads as it did. -/
def fnExactTxnAddUptoRow : OpenClaim := { program := "ythiflhkcpanaaaagreatdoor", sum := "1cd49b35bf59b29927a2ccdd8849244abe36c8929878ab8701859963567fb3d2", func := "loop.example/springhead/laws.FnExactTxnAdd", spec := "fnExactTxnAdd", inPlace := ["internal/reflectlite.ValueOf", "(internal/reflectlite.Value).Type", "(internal/reflectlite.Value).IsNil", "internal/reflectlite.TypeOf", "(internal/reflectlite.Value).Elem", "(internal/reflectlite.Value).Set", "internal/bytealg.abigen_runtime_cmpstring", "internal/abi.NoEscape"], unfollowed := true, recurses := true, named := ["errors.errorType"], plainKeys := false, apart := false, laid := [("errors.errorType", laid_errors_errorType)], narrowed := true }
def FnExactTxnAddUptoSaid : Prop := fnExactTxnAddUptoRow.holds Tryz.pinned (OpenSpec.upto fnExactTxnAddSpec)

/-- 'laws.FnExactTxnGone', WHERE WHAT IT READS IS OF BULK AT MOST 1048576: true; the input reads as it did. -/
def fnExactTxnGoneUptoRow : OpenClaim := { program := "ythiflhkcpanaaaagreatdoor", sum := "1cd49b35bf59b29927a2ccdd8849244abe36c8929878ab8701859963567fb3d2", func := "loop.example/springhead/laws.FnExactTxnGone", spec := "fnExactTxnGone", inPlace := ["internal/reflectlite.ValueOf", "(internal/reflectlite.Value).Type", "(internal/reflectlite.Value).IsNil", "internal/reflectlite.TypeOf", "(internal/reflectlite.Value).Elem", "(internal/reflectlite.Value).Set", "internal/bytealg.abigen_runtime_cmpstring", "internal/abi.NoEscape"], unfollowed := true, recurses := true, named := ["errors.errorType"], plainKeys := false, apart := false, laid := [("errors.errorType", laid_errors_errorType)], narrowed := true }
def FnExactTxnGoneUptoSaid : Prop := fnExactTxnGoneUptoRow.holds Tryz.pinned (OpenSpec.upto fnExactTxnGoneSpec)

/-- 'laws.FnExactTxnAsk', WHERE WHAT IT READS IS OF BULK AT MOST 1048576: true; the input reads as it did. -/
def fnExactTxnAskUptoRow : OpenClaim := { program := "ythiflhkcpanaaaagreatdoor", sum := "1cd49b35bf59b29927a2ccdd8849244abe36c8929878ab8701859963567fb3d2", func := "loop.example/springhead/laws.FnExactTxnAsk", spec := "fnExactTxnAsk", inPlace := ["internal/reflectlite.ValueOf", "(internal/reflectlite.Value).Type", "(internal/reflectlite.Value).IsNil", "internal/reflectlite.TypeOf", "(internal/reflectlite.Value).Elem", "(internal/reflectlite.Value).Set", "internal/bytealg.abigen_runtime_cmpstring", "internal/abi.NoEscape"], unfollowed := true, recurses := true, named := ["errors.errorType"], plainKeys := false, apart := false, laid := [("errors.errorType", laid_errors_errorType)], narrowed := true }
def FnExactTxnAskUptoSaid : Prop := fnExactTxnAskUptoRow.holds Tryz.pinned (OpenSpec.upto fnExactTxnAskSpec)

/-- 'laws.FnExactTxnEnd', WHERE WHAT IT READS IS OF BULK AT MOST 1048576: true; the input reads as it did. -/
def fnExactTxnEndUptoRow : OpenClaim := { program := "ythiflhkcpanaaaagreatdoor", sum := "1cd49b35bf59b29927a2ccdd8849244abe36c8929878ab8701859963567fb3d2", func := "loop.example/springhead/laws.FnExactTxnEnd", spec := "fnExactTxnEnd", inPlace := ["internal/reflectlite.ValueOf", "(internal/reflectlite.Value).Type", "(internal/reflectlite.Value).IsNil", "internal/reflectlite.TypeOf", "(internal/reflectlite.Value).Elem", "(internal/reflectlite.Value).Set", "internal/bytealg.abigen_runtime_cmpstring", "internal/abi.NoEscape"], unfollowed := true, recurses := true, named := ["errors.errorType"], plainKeys := false, apart := false, laid := [("errors.errorType", laid_errors_errorType)], narrowed := true }
def FnExactTxnEndUptoSaid : Prop := fnExactTxnEndUptoRow.holds Tryz.pinned (OpenSpec.upto fnExactTxnEndSpec)

end Rows
end Go.Proofs.YthiflhkcpanaaaaGreatDoor
