/-
  NARROWER THAN 'FOR EVERY INPUT', by the rows' own cells (each row's printed sentence says how): BatchActs: laid.
  DERIVED. THE GIVEN ROWS OF THIS SEAT. 1 by the template 'for every input the law returns true; each argument reads behind the call as it read before'; 0 by the template 'total and deterministic' (their statements: YtmbboflakfokhaaGreatDoorTotals.lean).
  GIVEN WITH THE SEED: the statements are not yours to turn. If you find one false, say at which input.
  Laid BY PROGRAM, IN A SANDBOX (cutbox-rows.mjs): the forced cells as the released guide's own fill.sh prints them over the translation 3aa349b706bc8a7e… (all of the seat's roots in one cut). By AI agents, Wed Nov 11 2026. No macro, syntax, notation, axiom, sorry.
-/
import Derived.Test.YtmbboflakfokhaaGreatDoorChecked
import GoSem.Claim
import GoSem.ClaimJoined
import GoSem.ClaimMapViews
import Derived.JoinedTies
import Derived.KernelRfl
namespace Go.Proofs.YtmbboflakfokhaaGreatDoor
/- THE CELL 'sum', in the pinned program and in every row, IS THE sha256 OF THE DUMP (.gsa) THAT YtmbboflakfokhaaGreatDoorProg.lean LOADS. Nothing in Lean hashes anything: it is a label: what it is worth is what the hold of that sum in a sandbox is worth. -/
noncomputable def Tryz.pinned : Pinned := { name := "ytmbboflakfokhaagreatdoor", sum := "3aa349b706bc8a7eaacd855276a9a5ff57823f01872fb4a9a8b7145a684e4fa3", checked := Tryz.checked }
namespace Rows
def none {H : Type} : Left H := { results := [], args := [] }

/- WHAT THE LISTED PACKAGE-LEVEL VARIABLES READ AS WHEN THE CALL BEGINS. Each datum BY PROGRAM (the guide's laid-datum.mjs) off the statement by which the dump's own 'gosem.cut.vars' lays the variable. In a bare row this is a premise. The card (YtmbboflakfokhaaGreatDoorCards.lean) ties it to the program's text. -/
def laid_errors_errorType {H : Type} : DataW H := .iface "internal/reflectlite.rtype" (.agg [.ptr (.lit (.string [101, 114, 114, 111, 114]))])
def laid_gavelhouse_api_ErrText {H : Type} : DataW H := .iface "*errors.errorString" (.ptr (.agg [.lit (.string [103, 97, 118, 101, 108, 104, 111, 117, 115, 101, 58, 32, 116, 101, 120, 116])]))
def laid_gavelhouse_api_ErrBound {H : Type} : DataW H := .iface "*errors.errorString" (.ptr (.agg [.lit (.string [103, 97, 118, 101, 108, 104, 111, 117, 115, 101, 58, 32, 98, 111, 117, 110, 100])]))
def laid_gavelhouse_api_ErrShape {H : Type} : DataW H := .iface "*errors.errorString" (.ptr (.agg [.lit (.string [103, 97, 118, 101, 108, 104, 111, 117, 115, 101, 58, 32, 115, 104, 97, 112, 101])]))
def laid_gavelhouse_api_ErrKind {H : Type} : DataW H := .iface "*errors.errorString" (.ptr (.agg [.lit (.string [103, 97, 118, 101, 108, 104, 111, 117, 115, 101, 58, 32, 107, 105, 110, 100])]))
def laid_gavelhouse_api_ErrSum {H : Type} : DataW H := .iface "*errors.errorString" (.ptr (.agg [.lit (.string [103, 97, 118, 101, 108, 104, 111, 117, 115, 101, 58, 32, 115, 117, 109])]))
def laid_gavelhouse_api_ErrNone {H : Type} : DataW H := .iface "*errors.errorString" (.ptr (.agg [.lit (.string [103, 97, 118, 101, 108, 104, 111, 117, 115, 101, 58, 32, 110, 111, 110, 101])]))
def laid_gavelhouse_api_ErrExist {H : Type} : DataW H := .iface "*errors.errorString" (.ptr (.agg [.lit (.string [103, 97, 118, 101, 108, 104, 111, 117, 115, 101, 58, 32, 101, 120, 105, 115, 116])]))
def laid_gavelhouse_api_ErrFull {H : Type} : DataW H := .iface "*errors.errorString" (.ptr (.agg [.lit (.string [103, 97, 118, 101, 108, 104, 111, 117, 115, 101, 58, 32, 102, 117, 108, 108])]))
def laid_gavelhouse_api_ErrOff {H : Type} : DataW H := .iface "*errors.errorString" (.ptr (.agg [.lit (.string [103, 97, 118, 101, 108, 104, 111, 117, 115, 101, 58, 32, 111, 102, 102])]))
def laid_gavelhouse_api_ErrPoor {H : Type} : DataW H := .iface "*errors.errorString" (.ptr (.agg [.lit (.string [103, 97, 118, 101, 108, 104, 111, 117, 115, 101, 58, 32, 112, 111, 111, 114])]))
def laid_gavelhouse_api_ErrState {H : Type} : DataW H := .iface "*errors.errorString" (.ptr (.agg [.lit (.string [103, 97, 118, 101, 108, 104, 111, 117, 115, 101, 58, 32, 115, 116, 97, 116, 101])]))
def laid_gavelhouse_api_ErrOrder {H : Type} : DataW H := .iface "*errors.errorString" (.ptr (.agg [.lit (.string [103, 97, 118, 101, 108, 104, 111, 117, 115, 101, 58, 32, 111, 114, 100, 101, 114])]))

/-- 'gavelhouselaw2.BatchActs': WHATEVER THE INPUT: true; the input reads as it did. -/
def batchActsSpec : ChangeSpec := { name := "batchActs", fn := fun _ => fun
  | [d1, d2] => { results := [.lit (.bool true)], args := [d1, d2] }
  | _ => none }
def batchActsRow : OpenClaim := { program := "ytmbboflakfokhaagreatdoor", sum := "3aa349b706bc8a7eaacd855276a9a5ff57823f01872fb4a9a8b7145a684e4fa3", func := "gavelhouse/gavelhouselaw2.BatchActs", spec := "batchActs", inPlace := ["internal/reflectlite.ValueOf", "(internal/reflectlite.Value).Type", "(internal/reflectlite.Value).IsNil", "internal/reflectlite.TypeOf", "(internal/reflectlite.Value).Elem", "(internal/reflectlite.Value).Set"], unfollowed := true, recurses := true, named := ["gavelhouse/api.ErrBound", "gavelhouse/api.ErrFull", "gavelhouse/api.ErrKind", "gavelhouse/api.ErrShape", "gavelhouse/api.ErrExist", "gavelhouse/api.ErrPoor", "gavelhouse/api.ErrNone", "gavelhouse/api.ErrOrder", "gavelhouse/api.ErrText", "gavelhouse/api.ErrSum", "gavelhouse/api.ErrOff", "gavelhouse/api.ErrState", "errors.errorType"], apart := false, laid := [("errors.errorType", laid_errors_errorType), ("gavelhouse/api.ErrText", laid_gavelhouse_api_ErrText), ("gavelhouse/api.ErrBound", laid_gavelhouse_api_ErrBound), ("gavelhouse/api.ErrShape", laid_gavelhouse_api_ErrShape), ("gavelhouse/api.ErrKind", laid_gavelhouse_api_ErrKind), ("gavelhouse/api.ErrSum", laid_gavelhouse_api_ErrSum), ("gavelhouse/api.ErrNone", laid_gavelhouse_api_ErrNone), ("gavelhouse/api.ErrExist", laid_gavelhouse_api_ErrExist), ("gavelhouse/api.ErrFull", laid_gavelhouse_api_ErrFull), ("gavelhouse/api.ErrOff", laid_gavelhouse_api_ErrOff), ("gavelhouse/api.ErrPoor", laid_gavelhouse_api_ErrPoor), ("gavelhouse/api.ErrState", laid_gavelhouse_api_ErrState), ("gavelhouse/api.ErrOrder", laid_gavelhouse_api_ErrOrder)] }
def BatchActsSaid : Prop := batchActsRow.holds Tryz.pinned (OpenSpec.ofChange batchActsSpec)

/-- ITS FALSE NEIGHBOUR: 'it returns false'. Refute it at one input. -/
def batchActsWrong : ChangeSpec := { name := "batchActs", fn := fun _ => fun
  | [d1, d2] => { results := [.lit (.bool false)], args := [d1, d2] }
  | _ => none }
def BatchActsWrongFalsely : Prop := batchActsRow.holds Tryz.pinned (OpenSpec.ofChange batchActsWrong)

/- THE SECOND FORM. 'bulk': how many values and letters a reading holds, each counted each time it is reached (what is shared counts as often as it is met; a slice's spare places count too). A statement '..UptoSaid' is the law's where the arguments, and the package variables that the reading takes, are together of bulk at most 1048576: NARROWER than '..Said'. Prove '..Said' where nothing that the law and all that it calls make is longer than what came in: it says more and counts as full. Else prove '..UptoSaid'. A law counts once. -/
mutual
def uptoBulk {H : Type} : DataW H → Nat
  | .lit (.string bytes) => bytes.length + 1
  | .lit _ => 1
  | .nil => 1
  | .ptr d => uptoBulk d + 1
  | .slice elems spare => uptoBulkAll elems + uptoBulkAll spare + 1
  | .agg parts => uptoBulkAll parts + 1
  | .iface _ d => uptoBulk d + 1
  | .map entries => uptoBulkEntries entries + 1
  | .held _ => 1
def uptoBulkAll {H : Type} : List (DataW H) → Nat
  | [] => 0
  | d :: r => uptoBulk d + uptoBulkAll r
def uptoBulkEntries {H : Type} : List (Lit × DataW H) → Nat
  | [] => 0
  | x :: r => uptoBulkEntry x + uptoBulkEntries r
def uptoBulkEntry {H : Type} : Lit × DataW H → Nat
  | (.string bytes, d) => bytes.length + uptoBulk d + 1
  | (_, d) => uptoBulk d + 1
 end
def uptoSmall : (H : Type) → List (DataW H) → Bool := fun _ ds => decide (uptoBulkAll ds ≤ 1048576)
def OpenSpec.upto (s : _root_.Go.ChangeSpec) : _root_.Go.OpenSpec := { _root_.Go.OpenSpec.ofChange s with cond := some uptoSmall }

/-- 'gavelhouselaw2.BatchActs', WHERE WHAT IT READS IS OF BULK AT MOST 1048576: true; the input reads as it did. -/
def batchActsUptoRow : OpenClaim := { program := "ytmbboflakfokhaagreatdoor", sum := "3aa349b706bc8a7eaacd855276a9a5ff57823f01872fb4a9a8b7145a684e4fa3", func := "gavelhouse/gavelhouselaw2.BatchActs", spec := "batchActs", inPlace := ["internal/reflectlite.ValueOf", "(internal/reflectlite.Value).Type", "(internal/reflectlite.Value).IsNil", "internal/reflectlite.TypeOf", "(internal/reflectlite.Value).Elem", "(internal/reflectlite.Value).Set"], unfollowed := true, recurses := true, named := ["gavelhouse/api.ErrBound", "gavelhouse/api.ErrFull", "gavelhouse/api.ErrKind", "gavelhouse/api.ErrShape", "gavelhouse/api.ErrExist", "gavelhouse/api.ErrPoor", "gavelhouse/api.ErrNone", "gavelhouse/api.ErrOrder", "gavelhouse/api.ErrText", "gavelhouse/api.ErrSum", "gavelhouse/api.ErrOff", "gavelhouse/api.ErrState", "errors.errorType"], apart := false, laid := [("errors.errorType", laid_errors_errorType), ("gavelhouse/api.ErrText", laid_gavelhouse_api_ErrText), ("gavelhouse/api.ErrBound", laid_gavelhouse_api_ErrBound), ("gavelhouse/api.ErrShape", laid_gavelhouse_api_ErrShape), ("gavelhouse/api.ErrKind", laid_gavelhouse_api_ErrKind), ("gavelhouse/api.ErrSum", laid_gavelhouse_api_ErrSum), ("gavelhouse/api.ErrNone", laid_gavelhouse_api_ErrNone), ("gavelhouse/api.ErrExist", laid_gavelhouse_api_ErrExist), ("gavelhouse/api.ErrFull", laid_gavelhouse_api_ErrFull), ("gavelhouse/api.ErrOff", laid_gavelhouse_api_ErrOff), ("gavelhouse/api.ErrPoor", laid_gavelhouse_api_ErrPoor), ("gavelhouse/api.ErrState", laid_gavelhouse_api_ErrState), ("gavelhouse/api.ErrOrder", laid_gavelhouse_api_ErrOrder)], narrowed := true }
def BatchActsUptoSaid : Prop := batchActsUptoRow.holds Tryz.pinned (OpenSpec.upto batchActsSpec)

end Rows
end Go.Proofs.YtmbboflakfokhaaGreatDoor
