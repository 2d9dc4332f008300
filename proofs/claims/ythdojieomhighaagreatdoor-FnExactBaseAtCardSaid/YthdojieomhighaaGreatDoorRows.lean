/-
  NARROWER THAN 'FOR EVERY INPUT', by the rows' own cells (each row's printed sentence says how): FnExactBaseOk: laid · FnAskRule: laid · FnBaseAt: laid · FnExactTxnBegin: laid · FnExactBaseAt: laid.
  DERIVED. THE GIVEN ROWS OF THIS SEAT. 5 by the template 'for every input the law returns true; each argument reads behind the call as it read before'; 0 by the template 'total and deterministic' (their statements: YthdojieomhighaaGreatDoorTotals.lean).
  GIVEN WITH THE SEED: the statements are not yours to turn. If you find one false, say at which input.
  Laid BY PROGRAM, IN A SANDBOX (cutbox-rows.mjs): the forced cells as the released guide's own fill.sh prints them over the translation 06ae870ac015d743… (all of the seat's roots in one cut). By AI agents, Wed Nov 11 2026. No macro, syntax, notation, axiom, sorry.
-/
import Derived.Test.YthdojieomhighaaGreatDoorChecked
import GoSem.Claim
import GoSem.ClaimJoined
import GoSem.ClaimMapViews
import Derived.JoinedTies
import Derived.KernelRfl
namespace Go.Proofs.YthdojieomhighaaGreatDoor
/- THE CELL 'sum', in the pinned program and in every row, IS THE sha256 OF THE DUMP (.gsa) THAT YthdojieomhighaaGreatDoorProg.lean LOADS. Nothing in Lean hashes anything: it is a label: what it is worth is what the hold of that sum in a sandbox is worth. -/
noncomputable def Tryz.pinned : Pinned := { name := "ythdojieomhighaagreatdoor", sum := "06ae870ac015d743a64baef6ef3cb0af581db411dc50e60af6b38c06ca55476a", checked := Tryz.checked }
namespace Rows
def none {H : Type} : Left H := { results := [], args := [] }

/- WHAT THE LISTED PACKAGE-LEVEL VARIABLES READ AS WHEN THE CALL BEGINS. Each datum BY PROGRAM (the guide's laid-datum.mjs) off the statement by which the dump's own 'gosem.cut.vars' lays the variable. In a bare row this is a premise. The card (YthdojieomhighaaGreatDoorCards.lean) ties it to the program's text. -/
def laid_errors_errorType {H : Type} : DataW H := .iface "internal/reflectlite.rtype" (.agg [.ptr (.lit (.string [101, 114, 114, 111, 114]))])

/-- 'laws.FnExactBaseOk': WHATEVER THE INPUT: true; the input reads as it did. -/
def fnExactBaseOkSpec : ChangeSpec := { name := "fnExactBaseOk", fn := fun _ => fun
  | [d] => { results := [.lit (.bool true)], args := [d] }
  | _ => none }
def fnExactBaseOkRow : OpenClaim := { program := "ythdojieomhighaagreatdoor", sum := "06ae870ac015d743a64baef6ef3cb0af581db411dc50e60af6b38c06ca55476a", func := "loop.example/springhead/laws.FnExactBaseOk", spec := "fnExactBaseOk", inPlace := ["internal/reflectlite.ValueOf", "(internal/reflectlite.Value).Type", "(internal/reflectlite.Value).IsNil", "internal/reflectlite.TypeOf", "(internal/reflectlite.Value).Elem", "(internal/reflectlite.Value).Set", "internal/bytealg.abigen_runtime_cmpstring", "internal/abi.NoEscape"], unfollowed := true, recurses := true, named := ["errors.errorType"], plainKeys := false, apart := false, laid := [("errors.errorType", laid_errors_errorType)] }
def FnExactBaseOkSaid : Prop := fnExactBaseOkRow.holds Tryz.pinned (OpenSpec.ofChange fnExactBaseOkSpec)

/-- ITS FALSE NEIGHBOUR: 'it returns false'. Refute it at one input. -/
def fnExactBaseOkWrong : ChangeSpec := { name := "fnExactBaseOk", fn := fun _ => fun
  | [d] => { results := [.lit (.bool false)], args := [d] }
  | _ => none }
def FnExactBaseOkWrongFalsely : Prop := fnExactBaseOkRow.holds Tryz.pinned (OpenSpec.ofChange fnExactBaseOkWrong)

/-- 'laws.FnAskRule': WHATEVER THE INPUT: true; the input reads as it did. -/
def fnAskRuleSpec : ChangeSpec := { name := "fnAskRule", fn := fun _ => fun
  | [d1, d2] => { results := [.lit (.bool true)], args := [d1, d2] }
  | _ => none }
def fnAskRuleRow : OpenClaim := { program := "ythdojieomhighaagreatdoor", sum := "06ae870ac015d743a64baef6ef3cb0af581db411dc50e60af6b38c06ca55476a", func := "loop.example/springhead/laws.FnAskRule", spec := "fnAskRule", inPlace := ["internal/reflectlite.ValueOf", "(internal/reflectlite.Value).Type", "(internal/reflectlite.Value).IsNil", "internal/reflectlite.TypeOf", "(internal/reflectlite.Value).Elem", "(internal/reflectlite.Value).Set", "internal/bytealg.abigen_runtime_cmpstring", "internal/abi.NoEscape"], unfollowed := true, recurses := true, named := ["errors.errorType"], plainKeys := false, apart := false, laid := [("errors.errorType", laid_errors_errorType)] }
def FnAskRuleSaid : Prop := fnAskRuleRow.holds Tryz.pinned (OpenSpec.ofChange fnAskRuleSpec)

/-- ITS FALSE NEIGHBOUR: 'it returns false'. Refute it at one input. -/
def fnAskRuleWrong : ChangeSpec := { name := "fnAskRule", fn := fun _ => fun
  | [d1, d2] => { results := [.lit (.bool false)], args := [d1, d2] }
  | _ => none }
def FnAskRuleWrongFalsely : Prop := fnAskRuleRow.holds Tryz.pinned (OpenSpec.ofChange fnAskRuleWrong)

/-- 'laws.FnBaseAt': WHATEVER THE INPUT: true; the input reads as it did. -/
def fnBaseAtSpec : ChangeSpec := { name := "fnBaseAt", fn := fun _ => fun
  | [d] => { results := [.lit (.bool true)], args := [d] }
  | _ => none }
def fnBaseAtRow : OpenClaim := { program := "ythdojieomhighaagreatdoor", sum := "06ae870ac015d743a64baef6ef3cb0af581db411dc50e60af6b38c06ca55476a", func := "loop.example/springhead/laws.FnBaseAt", spec := "fnBaseAt", inPlace := ["internal/reflectlite.ValueOf", "(internal/reflectlite.Value).Type", "(internal/reflectlite.Value).IsNil", "internal/reflectlite.TypeOf", "(internal/reflectlite.Value).Elem", "(internal/reflectlite.Value).Set", "internal/bytealg.abigen_runtime_cmpstring", "internal/abi.NoEscape"], unfollowed := true, recurses := true, named := ["errors.errorType"], plainKeys := false, apart := false, laid := [("errors.errorType", laid_errors_errorType)] }
def FnBaseAtSaid : Prop := fnBaseAtRow.holds Tryz.pinned (OpenSpec.ofChange fnBaseAtSpec)

/-- ITS FALSE NEIGHBOUR: 'it returns false'. Refute it at one input. -/
def fnBaseAtWrong : ChangeSpec := { name := "fnBaseAt", fn := fun _ => fun
  | [d] => { results := [.lit (.bool false)], args := [d] }
  | _ => none }
def FnBaseAtWrongFalsely : Prop := fnBaseAtRow.holds Tryz.pinned (OpenSpec.ofChange fnBaseAtWrong)

/-- 'laws.FnExactTxnBegin': WHATEVER THE INPUT: true; the input reads as it did. -/
def fnExactTxnBeginSpec : ChangeSpec := { name := "fnExactTxnBegin", fn := fun _ => fun
  | [d] => { results := [.lit (.bool true)], args := [d] }
  | _ => none }
def fnExactTxnBeginRow : OpenClaim := { program := "ythdojieomhighaagreatdoor", sum := "06ae870ac015d743a64baef6ef3cb0af581db411dc50e60af6b38c06ca55476a", func := "loop.example/springhead/laws.FnExactTxnBegin", spec := "fnExactTxnBegin", inPlace := ["internal/reflectlite.ValueOf", "(internal/reflectlite.Value).Type", "(internal/reflectlite.Value).IsNil", "internal/reflectlite.TypeOf", "(internal/reflectlite.Value).Elem", "(internal/reflectlite.Value).Set", "internal/bytealg.abigen_runtime_cmpstring", "internal/abi.NoEscape"], unfollowed := true, recurses := true, named := ["errors.errorType"], plainKeys := false, apart := false, laid := [("errors.errorType", laid_errors_errorType)] }
def FnExactTxnBeginSaid : Prop := fnExactTxnBeginRow.holds Tryz.pinned (OpenSpec.ofChange fnExactTxnBeginSpec)

/-- ITS FALSE NEIGHBOUR: 'it returns false'. Refute it at one input. -/
def fnExactTxnBeginWrong : ChangeSpec := { name := "fnExactTxnBegin", fn := fun _ => fun
  | [d] => { results := [.lit (.bool false)], args := [d] }
  | _ => none }
def FnExactTxnBeginWrongFalsely : Prop := fnExactTxnBeginRow.holds Tryz.pinned (OpenSpec.ofChange fnExactTxnBeginWrong)

/-- 'laws.FnExactBaseAt': WHATEVER THE INPUT: true; the input reads as it did. -/
def fnExactBaseAtSpec : ChangeSpec := { name := "fnExactBaseAt", fn := fun _ => fun
  | [d1, d2] => { results := [.lit (.bool true)], args := [d1, d2] }
  | _ => none }
def fnExactBaseAtRow : OpenClaim := { program := "ythdojieomhighaagreatdoor", sum := "06ae870ac015d743a64baef6ef3cb0af581db411dc50e60af6b38c06ca55476a", func := "loop.example/springhead/laws.FnExactBaseAt", spec := "fnExactBaseAt", inPlace := ["internal/reflectlite.ValueOf", "(internal/reflectlite.Value).Type", "(internal/reflectlite.Value).IsNil", "internal/reflectlite.TypeOf", "(internal/reflectlite.Value).Elem", "(internal/reflectlite.Value).Set", "internal/bytealg.abigen_runtime_cmpstring", "internal/abi.NoEscape"], unfollowed := true, recurses := true, named := ["errors.errorType"], plainKeys := false, apart := false, laid := [("errors.errorType", laid_errors_errorType)] }
def FnExactBaseAtSaid : Prop := fnExactBaseAtRow.holds Tryz.pinned (OpenSpec.ofChange fnExactBaseAtSpec)

/-- ITS FALSE NEIGHBOUR: 'it returns false'. Refute it at one input. -/
def fnExactBaseAtWrong : ChangeSpec := { name := "fnExactBaseAt", fn := fun _ => fun
  | [d1, d2] => { results := [.lit (.bool false)], args := [d1, d2] }
  | _ => none }
def FnExactBaseAtWrongFalsely : Prop := fnExactBaseAtRow.holds Tryz.pinned (OpenSpec.ofChange fnExactBaseAtWrong)

/- THE SECOND FORM. 'bulk': how many values and letters a reading holds, each counted each time it is reached (what is shared counts as often as it is met; a slice's spare places count too). A statement '..UptoSaid' is the law's where the arguments, and the package variables that the reading takes, are together of bulk at most 1048576: NARROWER than '..Said'. Prove '..Said' where nothing that the law and all that it calls make is longer than what came in: it says more and counts as full. Else prove '..UptoSaid'. A law counts once. -/
mutual
def uptoBulk {H : Type} : DataW H → Nat
  | .lit (.string bytes) => bytes.length + 1
  | .lit _ => 1
  | .nil => 1
  | .ptr d => uptoBulk d + 1
  | .slice elems spare => uptoBulkAll elems + uptoBulkAll spare + 1
  | .agg parts => uptoBulkAll parts + 1
  | .iface _ d => uptoBulk d + 1
  | .map entries => uptoBulkEntries entries + 1
  | .held _ => 1
def uptoBulkAll {H : Type} : List (DataW H) → Nat
  | [] => 0
  | d :: r => uptoBulk d + uptoBulkAll r
def uptoBulkEntries {H : Type} : List (Lit × DataW H) → Nat
  | [] => 0
  | x :: r => uptoBulkEntry x + uptoBulkEntries r
def uptoBulkEntry {H : Type} : Lit × DataW H → Nat
  | (.string bytes, d) => bytes.length + uptoBulk d + 1
  | (_, d) => uptoBulk d + 1
 end
def uptoSmall : (H : Type) → List (DataW H) → Bool := fun _ ds => decide (uptoBulkAll ds ≤ 1048576)
def OpenSpec.upto (s : _root_.Go.ChangeSpec) : _root_.Go.OpenSpec := { _root_.Go.OpenSpec.ofChange s with cond := some uptoSmall }

/-- 'laws.FnExactBaseOk', WHERE WHAT IT READS IS OF BULK AT MOST 1048576: true; the input reads as it did. -/
def fnExactBaseOkUptoRow : OpenClaim := { program := "ythdojieomhighaagreatdoor", sum := "06ae870ac015d743a64baef6ef3cb0af581db411dc50e60af6b38c06ca55476a", func := "loop.example/springhead/laws.FnExactBaseOk", spec := "fnExactBaseOk", inPlace := ["internal/reflectlite.ValueOf", "(internal/reflectlite.Value).Type", "(internal/reflectlite.Value).IsNil", "internal/reflectlite.TypeOf", "(internal/reflectlite.Value).Elem", "(internal/reflectlite.Value).Set", "internal/bytealg.abigen_runtime_cmpstring", "internal/abi.NoEscape"], unfollowed := true, recurses := true, named := ["errors.errorType"], plainKeys := false, apart := false, laid := [("errors.errorType", laid_errors_errorType)], narrowed := true }
def FnExactBaseOkUptoSaid : Prop := fnExactBaseOkUptoRow.holds Tryz.pinned (OpenSpec.upto fnExactBaseOkSpec)

/-- 'laws.FnAskRule', WHERE WHAT IT READS IS OF BULK AT MOST 1048576: true; the input reads as it did. -/
def fnAskRuleUptoRow : OpenClaim := { program := "ythdojieomhighaagreatdoor", sum := "06ae870ac015d743a64baef6ef3cb0af581db411dc50e60af6b38c06ca55476a", func := "loop.example/springhead/laws.FnAskRule", spec := "fnAskRule", inPlace := ["internal/reflectlite.ValueOf", "(internal/reflectlite.Value).Type", "(internal/reflectlite.Value).IsNil", "internal/reflectlite.TypeOf", "(internal/reflectlite.Value).Elem", "(internal/reflectlite.Value).Set", "internal/bytealg.abigen_runtime_cmpstring", "internal/abi.NoEscape"], unfollowed := true, recurses := true, named := ["errors.errorType"], plainKeys := false, apart := false, laid := [("errors.errorType", laid_errors_errorType)], narrowed := true }
def FnAskRuleUptoSaid : Prop := fnAskRuleUptoRow.holds Tryz.pinned (OpenSpec.upto fnAskRuleSpec)

/-- 'laws.FnBaseAt', WHERE WHAT IT READS IS OF BULK AT MOST 1048576: true; the input reads as it did. -/
def fnBaseAtUptoRow : OpenClaim := { program := "ythdojieomhighaagreatdoor", sum := "06ae870ac015d743a64baef6ef3cb0af581db411dc50e60af6b38c06ca55476a", func := "loop.example/springhead/laws.FnBaseAt", spec := "fnBaseAt", inPlace := ["internal/reflectlite.ValueOf", "(internal/reflectlite.Value).Type", "(internal/reflectlite.Value).IsNil", "internal/reflectlite.TypeOf", "(internal/reflectlite.Value).Elem", "(internal/reflectlite.Value).Set", "internal/bytealg.abigen_runtime_cmpstring", "internal/abi.NoEscape"], unfollowed := true, recurses := true, named := ["errors.errorType"], plainKeys := false, apart := false, laid := [("errors.errorType", laid_errors_errorType)], narrowed := true }
def FnBaseAtUptoSaid : Prop := fnBaseAtUptoRow.holds Tryz.pinned (OpenSpec.upto fnBaseAtSpec)

/-- 'laws.FnExactTxnBegin', WHERE WHAT IT READS IS OF BULK AT MOST 1048576: true; the input reads as it did. -/
def fnExactTxnBeginUptoRow : OpenClaim := { program := "ythdojieomhighaagreatdoor", sum := "06ae870ac015d743a64baef6ef3cb0af581db411dc50e60af6b38c06ca55476a", func := "loop.example/springhead/laws.FnExactTxnBegin", spec := "fnExactTxnBegin", inPlace := ["internal/reflectlite.ValueOf", "(internal/reflectlite.Value).Type", "(internal/reflectlite.Value).IsNil", "internal/reflectlite.TypeOf", "(internal/reflectlite.Value).Elem", "(internal/reflectlite.Value).Set", "internal/bytealg.abigen_runtime_cmpstring", "internal/abi.NoEscape"], unfollowed := true, recurses := true, named := ["errors.errorType"], plainKeys := false, apart := false, laid := [("errors.errorType", laid_errors_errorType)], narrowed := true }
def FnExactTxnBeginUptoSaid : Prop := fnExactTxnBeginUptoRow.holds Tryz.pinned (OpenSpec.upto fnExactTxnBeginSpec)

/-- 'laws.FnExactBaseAt', WHERE WHAT IT READS IS OF BULK AT MOST 1048576: true; the input reads as it did. -/
def fnExactBaseAtUptoRow : OpenClaim := { program := "ythdojieomhighaagreatdoor", sum := "06ae870ac015d743a64baef6ef3cb0af581db411dc50e60af6b38c06ca55476a", func := "loop.example/springhead/laws.FnExactBaseAt", spec := "fnExactBaseAt", inPlace := ["internal/reflectlite.ValueOf", "(internal/reflectlite.Value).Type", "(internal/reflectlite.Value).IsNil", "internal/reflectlite.TypeOf", "(internal/reflectlite.Value).Elem", "(internal/reflectlite.Value).Set", "internal/bytealg.abigen_runtime_cmpstring", "internal/abi.NoEscape"], unfollowed := true, recurses := true, named := ["errors.errorType"], plainKeys := false, apart := false, laid := [("errors.errorType", laid_errors_errorType)], narrowed := true }
def FnExactBaseAtUptoSaid : Prop := fnExactBaseAtUptoRow.holds Tryz.pinned (OpenSpec.upto fnExactBaseAtSpec)

end Rows
end Go.Proofs.YthdojieomhighaaGreatDoor
