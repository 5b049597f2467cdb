/-
  NARROWER THAN 'FOR EVERY INPUT', by the rows' own cells (each row's printed sentence says how): OptsSets: laid · OptsDefaults: laid · OptsTimes: laid · OptsRestarts: laid · OptsChecks: laid.
  DERIVED. THE GIVEN ROWS OF THIS SEAT. 5 by the template 'for every input the law returns true; each argument reads behind the call as it read before'; 0 by the template 'total and deterministic' (their statements: YtopoejfbcbnmdaaDoorTotals.lean).
  GIVEN WITH THE SEED: the statements are not yours to turn. If you find one false, say at which input.
  Laid BY PROGRAM, IN A SANDBOX (cutbox-rows.mjs): the forced cells as the released guide's own fill.sh prints them over the translation 319aa013cb4cfe0c… (all of the seat's roots in one cut). By AI agents, Wed Nov 11 2026. No macro, syntax, notation, axiom, sorry.
-/
import Derived.Test.YtopoejfbcbnmdaaDoorChecked
import GoSem.Claim
import GoSem.ClaimJoined
import GoSem.ClaimMapViews
import Derived.JoinedTies
import Derived.KernelRfl
namespace Go.Proofs.YtopoejfbcbnmdaaDoor
/- THE CELL 'sum', in the pinned program and in every row, IS THE sha256 OF THE DUMP (.gsa) THAT YtopoejfbcbnmdaaDoorProg.lean LOADS. Nothing in Lean hashes anything: it is a label: what it is worth is what the hold of that sum in a sandbox is worth. -/
noncomputable def Tryd.pinned : Pinned := { name := "ytopoejfbcbnmdaadoor", sum := "319aa013cb4cfe0c19d6f3c68b8d5f9845d572cc1e3f145ac01a78ca6d97b56f", checked := Tryd.checked }
namespace Rows
def none {H : Type} : Left H := { results := [], args := [] }

/- WHAT THE LISTED PACKAGE-LEVEL VARIABLES READ AS WHEN THE CALL BEGINS. Each datum BY PROGRAM (the guide's laid-datum.mjs) off the statement by which the dump's own 'gosem.cut.vars' lays the variable. In a bare row this is a premise. The card (YtopoejfbcbnmdaaDoorCards.lean) ties it to the program's text. -/
def laid_errors_errorType {H : Type} : DataW H := .iface "internal/reflectlite.rtype" (.agg [.ptr (.lit (.string [101, 114, 114, 111, 114]))])

/-- 'bradawllaw21.OptsSets': WHATEVER THE INPUT: true; the input reads as it did. -/
def optsSetsSpec : ChangeSpec := { name := "optsSets", fn := fun _ => fun
  | [d1, d2, d3] => { results := [.lit (.bool true)], args := [d1, d2, d3] }
  | _ => none }
def optsSetsRow : OpenClaim := { program := "ytopoejfbcbnmdaadoor", sum := "319aa013cb4cfe0c19d6f3c68b8d5f9845d572cc1e3f145ac01a78ca6d97b56f", func := "bradawl/bradawllaw21.OptsSets", spec := "optsSets", inPlace := ["internal/reflectlite.ValueOf", "(internal/reflectlite.Value).Type", "(internal/reflectlite.Value).IsNil", "internal/reflectlite.TypeOf", "(internal/reflectlite.Value).Elem", "(internal/reflectlite.Value).Set"], unfollowed := true, recurses := true, named := ["errors.errorType"], apart := false, laid := [("errors.errorType", laid_errors_errorType)] }
def OptsSetsSaid : Prop := optsSetsRow.holds Tryd.pinned (OpenSpec.ofChange optsSetsSpec)

/-- ITS FALSE NEIGHBOUR: 'it returns false'. Refute it at one input. -/
def optsSetsWrong : ChangeSpec := { name := "optsSets", fn := fun _ => fun
  | [d1, d2, d3] => { results := [.lit (.bool false)], args := [d1, d2, d3] }
  | _ => none }
def OptsSetsWrongFalsely : Prop := optsSetsRow.holds Tryd.pinned (OpenSpec.ofChange optsSetsWrong)

/-- 'bradawllaw21.OptsDefaults': WHATEVER THE INPUT: true; the input reads as it did. -/
def optsDefaultsSpec : ChangeSpec := { name := "optsDefaults", fn := fun _ => fun
  | [d1, d2] => { results := [.lit (.bool true)], args := [d1, d2] }
  | _ => none }
def optsDefaultsRow : OpenClaim := { program := "ytopoejfbcbnmdaadoor", sum := "319aa013cb4cfe0c19d6f3c68b8d5f9845d572cc1e3f145ac01a78ca6d97b56f", func := "bradawl/bradawllaw21.OptsDefaults", spec := "optsDefaults", inPlace := ["internal/reflectlite.ValueOf", "(internal/reflectlite.Value).Type", "(internal/reflectlite.Value).IsNil", "internal/reflectlite.TypeOf", "(internal/reflectlite.Value).Elem", "(internal/reflectlite.Value).Set"], unfollowed := true, recurses := true, named := ["errors.errorType"], apart := false, laid := [("errors.errorType", laid_errors_errorType)] }
def OptsDefaultsSaid : Prop := optsDefaultsRow.holds Tryd.pinned (OpenSpec.ofChange optsDefaultsSpec)

/-- ITS FALSE NEIGHBOUR: 'it returns false'. Refute it at one input. -/
def optsDefaultsWrong : ChangeSpec := { name := "optsDefaults", fn := fun _ => fun
  | [d1, d2] => { results := [.lit (.bool false)], args := [d1, d2] }
  | _ => none }
def OptsDefaultsWrongFalsely : Prop := optsDefaultsRow.holds Tryd.pinned (OpenSpec.ofChange optsDefaultsWrong)

/-- 'bradawllaw21.OptsTimes': WHATEVER THE INPUT: true; the input reads as it did. -/
def optsTimesSpec : ChangeSpec := { name := "optsTimes", fn := fun _ => fun
  | [d1, d2] => { results := [.lit (.bool true)], args := [d1, d2] }
  | _ => none }
def optsTimesRow : OpenClaim := { program := "ytopoejfbcbnmdaadoor", sum := "319aa013cb4cfe0c19d6f3c68b8d5f9845d572cc1e3f145ac01a78ca6d97b56f", func := "bradawl/bradawllaw21.OptsTimes", spec := "optsTimes", inPlace := ["internal/reflectlite.ValueOf", "(internal/reflectlite.Value).Type", "(internal/reflectlite.Value).IsNil", "internal/reflectlite.TypeOf", "(internal/reflectlite.Value).Elem", "(internal/reflectlite.Value).Set"], unfollowed := true, recurses := true, named := ["errors.errorType"], apart := false, laid := [("errors.errorType", laid_errors_errorType)] }
def OptsTimesSaid : Prop := optsTimesRow.holds Tryd.pinned (OpenSpec.ofChange optsTimesSpec)

/-- ITS FALSE NEIGHBOUR: 'it returns false'. Refute it at one input. -/
def optsTimesWrong : ChangeSpec := { name := "optsTimes", fn := fun _ => fun
  | [d1, d2] => { results := [.lit (.bool false)], args := [d1, d2] }
  | _ => none }
def OptsTimesWrongFalsely : Prop := optsTimesRow.holds Tryd.pinned (OpenSpec.ofChange optsTimesWrong)

/-- 'bradawllaw21.OptsRestarts': WHATEVER THE INPUT: true; the input reads as it did. -/
def optsRestartsSpec : ChangeSpec := { name := "optsRestarts", fn := fun _ => fun
  | [d1, d2, d3] => { results := [.lit (.bool true)], args := [d1, d2, d3] }
  | _ => none }
def optsRestartsRow : OpenClaim := { program := "ytopoejfbcbnmdaadoor", sum := "319aa013cb4cfe0c19d6f3c68b8d5f9845d572cc1e3f145ac01a78ca6d97b56f", func := "bradawl/bradawllaw21.OptsRestarts", spec := "optsRestarts", inPlace := ["internal/reflectlite.ValueOf", "(internal/reflectlite.Value).Type", "(internal/reflectlite.Value).IsNil", "internal/reflectlite.TypeOf", "(internal/reflectlite.Value).Elem", "(internal/reflectlite.Value).Set"], unfollowed := true, recurses := true, named := ["errors.errorType"], apart := false, laid := [("errors.errorType", laid_errors_errorType)] }
def OptsRestartsSaid : Prop := optsRestartsRow.holds Tryd.pinned (OpenSpec.ofChange optsRestartsSpec)

/-- ITS FALSE NEIGHBOUR: 'it returns false'. Refute it at one input. -/
def optsRestartsWrong : ChangeSpec := { name := "optsRestarts", fn := fun _ => fun
  | [d1, d2, d3] => { results := [.lit (.bool false)], args := [d1, d2, d3] }
  | _ => none }
def OptsRestartsWrongFalsely : Prop := optsRestartsRow.holds Tryd.pinned (OpenSpec.ofChange optsRestartsWrong)

/-- 'bradawllaw21.OptsChecks': WHATEVER THE INPUT: true; the input reads as it did. -/
def optsChecksSpec : ChangeSpec := { name := "optsChecks", fn := fun _ => fun
  | [d1, d2] => { results := [.lit (.bool true)], args := [d1, d2] }
  | _ => none }
def optsChecksRow : OpenClaim := { program := "ytopoejfbcbnmdaadoor", sum := "319aa013cb4cfe0c19d6f3c68b8d5f9845d572cc1e3f145ac01a78ca6d97b56f", func := "bradawl/bradawllaw21.OptsChecks", spec := "optsChecks", inPlace := ["internal/reflectlite.ValueOf", "(internal/reflectlite.Value).Type", "(internal/reflectlite.Value).IsNil", "internal/reflectlite.TypeOf", "(internal/reflectlite.Value).Elem", "(internal/reflectlite.Value).Set"], unfollowed := true, recurses := true, named := ["errors.errorType"], apart := false, laid := [("errors.errorType", laid_errors_errorType)] }
def OptsChecksSaid : Prop := optsChecksRow.holds Tryd.pinned (OpenSpec.ofChange optsChecksSpec)

/-- ITS FALSE NEIGHBOUR: 'it returns false'. Refute it at one input. -/
def optsChecksWrong : ChangeSpec := { name := "optsChecks", fn := fun _ => fun
  | [d1, d2] => { results := [.lit (.bool false)], args := [d1, d2] }
  | _ => none }
def OptsChecksWrongFalsely : Prop := optsChecksRow.holds Tryd.pinned (OpenSpec.ofChange optsChecksWrong)

/- THE SECOND FORM. 'bulk': how many values and letters a reading holds, each counted each time it is reached (what is shared counts as often as it is met; a slice's spare places count too). A statement '..UptoSaid' is the law's where the arguments, and the package variables that the reading takes, are together of bulk at most 1048576: NARROWER than '..Said'. Prove '..Said' where nothing that the law and all that it calls make is longer than what came in: it says more and counts as full. Else prove '..UptoSaid'. A law counts once. -/
mutual
def uptoBulk {H : Type} : DataW H → Nat
  | .lit (.string bytes) => bytes.length + 1
  | .lit _ => 1
  | .nil => 1
  | .ptr d => uptoBulk d + 1
  | .slice elems spare => uptoBulkAll elems + uptoBulkAll spare + 1
  | .agg parts => uptoBulkAll parts + 1
  | .iface _ d => uptoBulk d + 1
  | .map entries => uptoBulkEntries entries + 1
  | .held _ => 1
def uptoBulkAll {H : Type} : List (DataW H) → Nat
  | [] => 0
  | d :: r => uptoBulk d + uptoBulkAll r
def uptoBulkEntries {H : Type} : List (Lit × DataW H) → Nat
  | [] => 0
  | x :: r => uptoBulkEntry x + uptoBulkEntries r
def uptoBulkEntry {H : Type} : Lit × DataW H → Nat
  | (.string bytes, d) => bytes.length + uptoBulk d + 1
  | (_, d) => uptoBulk d + 1
 end
def uptoSmall : (H : Type) → List (DataW H) → Bool := fun _ ds => decide (uptoBulkAll ds ≤ 1048576)
def OpenSpec.upto (s : _root_.Go.ChangeSpec) : _root_.Go.OpenSpec := { _root_.Go.OpenSpec.ofChange s with cond := some uptoSmall }

/-- 'bradawllaw21.OptsSets', WHERE WHAT IT READS IS OF BULK AT MOST 1048576: true; the input reads as it did. -/
def optsSetsUptoRow : OpenClaim := { program := "ytopoejfbcbnmdaadoor", sum := "319aa013cb4cfe0c19d6f3c68b8d5f9845d572cc1e3f145ac01a78ca6d97b56f", func := "bradawl/bradawllaw21.OptsSets", spec := "optsSets", inPlace := ["internal/reflectlite.ValueOf", "(internal/reflectlite.Value).Type", "(internal/reflectlite.Value).IsNil", "internal/reflectlite.TypeOf", "(internal/reflectlite.Value).Elem", "(internal/reflectlite.Value).Set"], unfollowed := true, recurses := true, named := ["errors.errorType"], apart := false, laid := [("errors.errorType", laid_errors_errorType)], narrowed := true }
def OptsSetsUptoSaid : Prop := optsSetsUptoRow.holds Tryd.pinned (OpenSpec.upto optsSetsSpec)

/-- 'bradawllaw21.OptsDefaults', WHERE WHAT IT READS IS OF BULK AT MOST 1048576: true; the input reads as it did. -/
def optsDefaultsUptoRow : OpenClaim := { program := "ytopoejfbcbnmdaadoor", sum := "319aa013cb4cfe0c19d6f3c68b8d5f9845d572cc1e3f145ac01a78ca6d97b56f", func := "bradawl/bradawllaw21.OptsDefaults", spec := "optsDefaults", inPlace := ["internal/reflectlite.ValueOf", "(internal/reflectlite.Value).Type", "(internal/reflectlite.Value).IsNil", "internal/reflectlite.TypeOf", "(internal/reflectlite.Value).Elem", "(internal/reflectlite.Value).Set"], unfollowed := true, recurses := true, named := ["errors.errorType"], apart := false, laid := [("errors.errorType", laid_errors_errorType)], narrowed := true }
def OptsDefaultsUptoSaid : Prop := optsDefaultsUptoRow.holds Tryd.pinned (OpenSpec.upto optsDefaultsSpec)

/-- 'bradawllaw21.OptsTimes', WHERE WHAT IT READS IS OF BULK AT MOST 1048576: true; the input reads as it did. -/
def optsTimesUptoRow : OpenClaim := { program := "ytopoejfbcbnmdaadoor", sum := "319aa013cb4cfe0c19d6f3c68b8d5f9845d572cc1e3f145ac01a78ca6d97b56f", func := "bradawl/bradawllaw21.OptsTimes", spec := "optsTimes", inPlace := ["internal/reflectlite.ValueOf", "(internal/reflectlite.Value).Type", "(internal/reflectlite.Value).IsNil", "internal/reflectlite.TypeOf", "(internal/reflectlite.Value).Elem", "(internal/reflectlite.Value).Set"], unfollowed := true, recurses := true, named := ["errors.errorType"], apart := false, laid := [("errors.errorType", laid_errors_errorType)], narrowed := true }
def OptsTimesUptoSaid : Prop := optsTimesUptoRow.holds Tryd.pinned (OpenSpec.upto optsTimesSpec)

/-- 'bradawllaw21.OptsRestarts', WHERE WHAT IT READS IS OF BULK AT MOST 1048576: true; the input reads as it did. -/
def optsRestartsUptoRow : OpenClaim := { program := "ytopoejfbcbnmdaadoor", sum := "319aa013cb4cfe0c19d6f3c68b8d5f9845d572cc1e3f145ac01a78ca6d97b56f", func := "bradawl/bradawllaw21.OptsRestarts", spec := "optsRestarts", inPlace := ["internal/reflectlite.ValueOf", "(internal/reflectlite.Value).Type", "(internal/reflectlite.Value).IsNil", "internal/reflectlite.TypeOf", "(internal/reflectlite.Value).Elem", "(internal/reflectlite.Value).Set"], unfollowed := true, recurses := true, named := ["errors.errorType"], apart := false, laid := [("errors.errorType", laid_errors_errorType)], narrowed := true }
def OptsRestartsUptoSaid : Prop := optsRestartsUptoRow.holds Tryd.pinned (OpenSpec.upto optsRestartsSpec)

/-- 'bradawllaw21.OptsChecks', WHERE WHAT IT READS IS OF BULK AT MOST 1048576: true; the input reads as it did. -/
def optsChecksUptoRow : OpenClaim := { program := "ytopoejfbcbnmdaadoor", sum := "319aa013cb4cfe0c19d6f3c68b8d5f9845d572cc1e3f145ac01a78ca6d97b56f", func := "bradawl/bradawllaw21.OptsChecks", spec := "optsChecks", inPlace := ["internal/reflectlite.ValueOf", "(internal/reflectlite.Value).Type", "(internal/reflectlite.Value).IsNil", "internal/reflectlite.TypeOf", "(internal/reflectlite.Value).Elem", "(internal/reflectlite.Value).Set"], unfollowed := true, recurses := true, named := ["errors.errorType"], apart := false, laid := [("errors.errorType", laid_errors_errorType)], narrowed := true }
def OptsChecksUptoSaid : Prop := optsChecksUptoRow.holds Tryd.pinned (OpenSpec.upto optsChecksSpec)

end Rows
end Go.Proofs.YtopoejfbcbnmdaaDoor
