/-
  NARROWER THAN 'FOR EVERY INPUT', by the rows' own cells (each row's printed sentence says how): PurseBack: laid · TapeReads: laid · BookOrder: laid · TapeCuts: laid · PurseKeeps: laid · TapeActs: laid · PursePays: laid · BookKeeps: laid · BookActs: laid.
  DERIVED. THE GIVEN ROWS OF THIS SEAT. 9 by the template 'for every input the law returns true; each argument reads behind the call as it read before'; 0 by the template 'total and deterministic' (their statements: YtfeeibealokhfaaDoorTotals.lean).
  GIVEN WITH THE SEED: the statements are not yours to turn. If you find one false, say at which input.
  Laid BY PROGRAM, IN A SANDBOX (cutbox-rows.mjs): the forced cells as the released guide's own fill.sh prints them over the translation 00ebbc8135258d8a… (all of the seat's roots in one cut). By AI agents, Wed Nov 11 2026. No macro, syntax, notation, axiom, sorry.
-/
import Derived.Test.YtfeeibealokhfaaDoorChecked
import GoSem.Claim
import GoSem.ClaimJoined
import GoSem.ClaimMapViews
import Derived.JoinedTies
import Derived.KernelRfl
namespace Go.Proofs.YtfeeibealokhfaaDoor
/- THE CELL 'sum', in the pinned program and in every row, IS THE sha256 OF THE DUMP (.gsa) THAT YtfeeibealokhfaaDoorProg.lean LOADS. Nothing in Lean hashes anything: it is a label: what it is worth is what the hold of that sum in a sandbox is worth. -/
noncomputable def Tryd.pinned : Pinned := { name := "ytfeeibealokhfaadoor", sum := "00ebbc8135258d8a262ae1aa28b1a0727b67f285fcaf3d72361a4283c2b8a06f", checked := Tryd.checked }
namespace Rows
def none {H : Type} : Left H := { results := [], args := [] }

/- WHAT THE LISTED PACKAGE-LEVEL VARIABLES READ AS WHEN THE CALL BEGINS. Each datum BY PROGRAM (the guide's laid-datum.mjs) off the statement by which the dump's own 'gosem.cut.vars' lays the variable. In a bare row this is a premise. The card (YtfeeibealokhfaaDoorCards.lean) ties it to the program's text. -/
def laid_gavelhouse_api_ErrBound {H : Type} : DataW H := .iface "*errors.errorString" (.ptr (.agg [.lit (.string [103, 97, 118, 101, 108, 104, 111, 117, 115, 101, 58, 32, 98, 111, 117, 110, 100])]))
def laid_gavelhouse_api_ErrFull {H : Type} : DataW H := .iface "*errors.errorString" (.ptr (.agg [.lit (.string [103, 97, 118, 101, 108, 104, 111, 117, 115, 101, 58, 32, 102, 117, 108, 108])]))
def laid_gavelhouse_api_ErrPoor {H : Type} : DataW H := .iface "*errors.errorString" (.ptr (.agg [.lit (.string [103, 97, 118, 101, 108, 104, 111, 117, 115, 101, 58, 32, 112, 111, 111, 114])]))
def laid_gavelhouse_api_ErrShape {H : Type} : DataW H := .iface "*errors.errorString" (.ptr (.agg [.lit (.string [103, 97, 118, 101, 108, 104, 111, 117, 115, 101, 58, 32, 115, 104, 97, 112, 101])]))
def laid_gavelhouse_api_ErrOff {H : Type} : DataW H := .iface "*errors.errorString" (.ptr (.agg [.lit (.string [103, 97, 118, 101, 108, 104, 111, 117, 115, 101, 58, 32, 111, 102, 102])]))
def laid_gavelhouse_api_ErrNone {H : Type} : DataW H := .iface "*errors.errorString" (.ptr (.agg [.lit (.string [103, 97, 118, 101, 108, 104, 111, 117, 115, 101, 58, 32, 110, 111, 110, 101])]))
def laid_gavelhouse_api_ErrExist {H : Type} : DataW H := .iface "*errors.errorString" (.ptr (.agg [.lit (.string [103, 97, 118, 101, 108, 104, 111, 117, 115, 101, 58, 32, 101, 120, 105, 115, 116])]))
def laid_gavelhouse_api_ErrOrder {H : Type} : DataW H := .iface "*errors.errorString" (.ptr (.agg [.lit (.string [103, 97, 118, 101, 108, 104, 111, 117, 115, 101, 58, 32, 111, 114, 100, 101, 114])]))
def laid_errors_errorType {H : Type} : DataW H := .iface "internal/reflectlite.rtype" (.agg [.ptr (.lit (.string [101, 114, 114, 111, 114]))])
def laid_gavelhouse_api_ErrText {H : Type} : DataW H := .iface "*errors.errorString" (.ptr (.agg [.lit (.string [103, 97, 118, 101, 108, 104, 111, 117, 115, 101, 58, 32, 116, 101, 120, 116])]))
def laid_gavelhouse_api_ErrKind {H : Type} : DataW H := .iface "*errors.errorString" (.ptr (.agg [.lit (.string [103, 97, 118, 101, 108, 104, 111, 117, 115, 101, 58, 32, 107, 105, 110, 100])]))
def laid_gavelhouse_api_ErrSum {H : Type} : DataW H := .iface "*errors.errorString" (.ptr (.agg [.lit (.string [103, 97, 118, 101, 108, 104, 111, 117, 115, 101, 58, 32, 115, 117, 109])]))
def laid_gavelhouse_api_ErrState {H : Type} : DataW H := .iface "*errors.errorString" (.ptr (.agg [.lit (.string [103, 97, 118, 101, 108, 104, 111, 117, 115, 101, 58, 32, 115, 116, 97, 116, 101])]))

/-- 'gavelhouselaw2.PurseBack': WHATEVER THE INPUT: true; the input reads as it did. -/
def purseBackSpec : ChangeSpec := { name := "purseBack", fn := fun _ => fun
  | [d1, d2, d3] => { results := [.lit (.bool true)], args := [d1, d2, d3] }
  | _ => none }
def purseBackRow : OpenClaim := { program := "ytfeeibealokhfaadoor", sum := "00ebbc8135258d8a262ae1aa28b1a0727b67f285fcaf3d72361a4283c2b8a06f", func := "gavelhouse/gavelhouselaw2.PurseBack", spec := "purseBack", named := ["gavelhouse/api.ErrBound", "gavelhouse/api.ErrFull", "gavelhouse/api.ErrPoor"], apart := false, laid := [("gavelhouse/api.ErrBound", laid_gavelhouse_api_ErrBound), ("gavelhouse/api.ErrFull", laid_gavelhouse_api_ErrFull), ("gavelhouse/api.ErrPoor", laid_gavelhouse_api_ErrPoor)] }
def PurseBackSaid : Prop := purseBackRow.holds Tryd.pinned (OpenSpec.ofChange purseBackSpec)

/-- ITS FALSE NEIGHBOUR: 'it returns false'. Refute it at one input. -/
def purseBackWrong : ChangeSpec := { name := "purseBack", fn := fun _ => fun
  | [d1, d2, d3] => { results := [.lit (.bool false)], args := [d1, d2, d3] }
  | _ => none }
def PurseBackWrongFalsely : Prop := purseBackRow.holds Tryd.pinned (OpenSpec.ofChange purseBackWrong)

/-- 'gavelhouselaw1.TapeReads': WHATEVER THE INPUT: true; the input reads as it did. -/
def tapeReadsSpec : ChangeSpec := { name := "tapeReads", fn := fun _ => fun
  | [d1, d2] => { results := [.lit (.bool true)], args := [d1, d2] }
  | _ => none }
def tapeReadsRow : OpenClaim := { program := "ytfeeibealokhfaadoor", sum := "00ebbc8135258d8a262ae1aa28b1a0727b67f285fcaf3d72361a4283c2b8a06f", func := "gavelhouse/gavelhouselaw1.TapeReads", spec := "tapeReads", named := ["gavelhouse/api.ErrBound", "gavelhouse/api.ErrShape", "gavelhouse/api.ErrFull", "gavelhouse/api.ErrOff"], apart := false, laid := [("gavelhouse/api.ErrBound", laid_gavelhouse_api_ErrBound), ("gavelhouse/api.ErrShape", laid_gavelhouse_api_ErrShape), ("gavelhouse/api.ErrFull", laid_gavelhouse_api_ErrFull), ("gavelhouse/api.ErrOff", laid_gavelhouse_api_ErrOff)] }
def TapeReadsSaid : Prop := tapeReadsRow.holds Tryd.pinned (OpenSpec.ofChange tapeReadsSpec)

/-- ITS FALSE NEIGHBOUR: 'it returns false'. Refute it at one input. -/
def tapeReadsWrong : ChangeSpec := { name := "tapeReads", fn := fun _ => fun
  | [d1, d2] => { results := [.lit (.bool false)], args := [d1, d2] }
  | _ => none }
def TapeReadsWrongFalsely : Prop := tapeReadsRow.holds Tryd.pinned (OpenSpec.ofChange tapeReadsWrong)

/-- 'gavelhouselaw2.BookOrder': WHATEVER THE INPUT: true; the input reads as it did. -/
def bookOrderSpec : ChangeSpec := { name := "bookOrder", fn := fun _ => fun
  | [d] => { results := [.lit (.bool true)], args := [d] }
  | _ => none }
def bookOrderRow : OpenClaim := { program := "ytfeeibealokhfaadoor", sum := "00ebbc8135258d8a262ae1aa28b1a0727b67f285fcaf3d72361a4283c2b8a06f", func := "gavelhouse/gavelhouselaw2.BookOrder", spec := "bookOrder", unfollowed := true, recurses := true, named := ["gavelhouse/api.ErrBound", "gavelhouse/api.ErrExist", "gavelhouse/api.ErrFull", "gavelhouse/api.ErrNone"], apart := false, laid := [("gavelhouse/api.ErrBound", laid_gavelhouse_api_ErrBound), ("gavelhouse/api.ErrNone", laid_gavelhouse_api_ErrNone), ("gavelhouse/api.ErrExist", laid_gavelhouse_api_ErrExist), ("gavelhouse/api.ErrFull", laid_gavelhouse_api_ErrFull)] }
def BookOrderSaid : Prop := bookOrderRow.holds Tryd.pinned (OpenSpec.ofChange bookOrderSpec)

/-- ITS FALSE NEIGHBOUR: 'it returns false'. Refute it at one input. -/
def bookOrderWrong : ChangeSpec := { name := "bookOrder", fn := fun _ => fun
  | [d] => { results := [.lit (.bool false)], args := [d] }
  | _ => none }
def BookOrderWrongFalsely : Prop := bookOrderRow.holds Tryd.pinned (OpenSpec.ofChange bookOrderWrong)

/-- 'gavelhouselaw1.TapeCuts': WHATEVER THE INPUT: true; the input reads as it did. -/
def tapeCutsSpec : ChangeSpec := { name := "tapeCuts", fn := fun _ => fun
  | [d1, d2] => { results := [.lit (.bool true)], args := [d1, d2] }
  | _ => none }
def tapeCutsRow : OpenClaim := { program := "ytfeeibealokhfaadoor", sum := "00ebbc8135258d8a262ae1aa28b1a0727b67f285fcaf3d72361a4283c2b8a06f", func := "gavelhouse/gavelhouselaw1.TapeCuts", spec := "tapeCuts", named := ["gavelhouse/api.ErrBound", "gavelhouse/api.ErrShape", "gavelhouse/api.ErrFull", "gavelhouse/api.ErrOff"], apart := false, laid := [("gavelhouse/api.ErrBound", laid_gavelhouse_api_ErrBound), ("gavelhouse/api.ErrShape", laid_gavelhouse_api_ErrShape), ("gavelhouse/api.ErrFull", laid_gavelhouse_api_ErrFull), ("gavelhouse/api.ErrOff", laid_gavelhouse_api_ErrOff)] }
def TapeCutsSaid : Prop := tapeCutsRow.holds Tryd.pinned (OpenSpec.ofChange tapeCutsSpec)

/-- ITS FALSE NEIGHBOUR: 'it returns false'. Refute it at one input. -/
def tapeCutsWrong : ChangeSpec := { name := "tapeCuts", fn := fun _ => fun
  | [d1, d2] => { results := [.lit (.bool false)], args := [d1, d2] }
  | _ => none }
def TapeCutsWrongFalsely : Prop := tapeCutsRow.holds Tryd.pinned (OpenSpec.ofChange tapeCutsWrong)

/-- 'gavelhouselaw2.PurseKeeps': WHATEVER THE INPUT: true; the input reads as it did. -/
def purseKeepsSpec : ChangeSpec := { name := "purseKeeps", fn := fun _ => fun
  | [d] => { results := [.lit (.bool true)], args := [d] }
  | _ => none }
def purseKeepsRow : OpenClaim := { program := "ytfeeibealokhfaadoor", sum := "00ebbc8135258d8a262ae1aa28b1a0727b67f285fcaf3d72361a4283c2b8a06f", func := "gavelhouse/gavelhouselaw2.PurseKeeps", spec := "purseKeeps", named := ["gavelhouse/api.ErrBound", "gavelhouse/api.ErrFull", "gavelhouse/api.ErrPoor", "gavelhouse/api.ErrShape", "gavelhouse/api.ErrOrder"], apart := false, laid := [("gavelhouse/api.ErrBound", laid_gavelhouse_api_ErrBound), ("gavelhouse/api.ErrShape", laid_gavelhouse_api_ErrShape), ("gavelhouse/api.ErrFull", laid_gavelhouse_api_ErrFull), ("gavelhouse/api.ErrPoor", laid_gavelhouse_api_ErrPoor), ("gavelhouse/api.ErrOrder", laid_gavelhouse_api_ErrOrder)] }
def PurseKeepsSaid : Prop := purseKeepsRow.holds Tryd.pinned (OpenSpec.ofChange purseKeepsSpec)

/-- ITS FALSE NEIGHBOUR: 'it returns false'. Refute it at one input. -/
def purseKeepsWrong : ChangeSpec := { name := "purseKeeps", fn := fun _ => fun
  | [d] => { results := [.lit (.bool false)], args := [d] }
  | _ => none }
def PurseKeepsWrongFalsely : Prop := purseKeepsRow.holds Tryd.pinned (OpenSpec.ofChange purseKeepsWrong)

/-- 'gavelhouselaw1.TapeActs': WHATEVER THE INPUT: true; the input reads as it did. -/
def tapeActsSpec : ChangeSpec := { name := "tapeActs", fn := fun _ => fun
  | [d1, d2] => { results := [.lit (.bool true)], args := [d1, d2] }
  | _ => none }
def tapeActsRow : OpenClaim := { program := "ytfeeibealokhfaadoor", sum := "00ebbc8135258d8a262ae1aa28b1a0727b67f285fcaf3d72361a4283c2b8a06f", func := "gavelhouse/gavelhouselaw1.TapeActs", spec := "tapeActs", inPlace := ["internal/reflectlite.ValueOf", "(internal/reflectlite.Value).Type", "(internal/reflectlite.Value).IsNil", "internal/reflectlite.TypeOf", "(internal/reflectlite.Value).Elem", "(internal/reflectlite.Value).Set"], unfollowed := true, recurses := true, named := ["gavelhouse/api.ErrBound", "gavelhouse/api.ErrShape", "gavelhouse/api.ErrFull", "gavelhouse/api.ErrOff", "gavelhouse/api.ErrText", "gavelhouse/api.ErrKind", "gavelhouse/api.ErrSum", "gavelhouse/api.ErrNone", "gavelhouse/api.ErrExist", "gavelhouse/api.ErrPoor", "gavelhouse/api.ErrState", "gavelhouse/api.ErrOrder", "errors.errorType"], apart := false, laid := [("errors.errorType", laid_errors_errorType), ("gavelhouse/api.ErrText", laid_gavelhouse_api_ErrText), ("gavelhouse/api.ErrBound", laid_gavelhouse_api_ErrBound), ("gavelhouse/api.ErrShape", laid_gavelhouse_api_ErrShape), ("gavelhouse/api.ErrKind", laid_gavelhouse_api_ErrKind), ("gavelhouse/api.ErrSum", laid_gavelhouse_api_ErrSum), ("gavelhouse/api.ErrNone", laid_gavelhouse_api_ErrNone), ("gavelhouse/api.ErrExist", laid_gavelhouse_api_ErrExist), ("gavelhouse/api.ErrFull", laid_gavelhouse_api_ErrFull), ("gavelhouse/api.ErrOff", laid_gavelhouse_api_ErrOff), ("gavelhouse/api.ErrPoor", laid_gavelhouse_api_ErrPoor), ("gavelhouse/api.ErrState", laid_gavelhouse_api_ErrState), ("gavelhouse/api.ErrOrder", laid_gavelhouse_api_ErrOrder)] }
def TapeActsSaid : Prop := tapeActsRow.holds Tryd.pinned (OpenSpec.ofChange tapeActsSpec)

/-- ITS FALSE NEIGHBOUR: 'it returns false'. Refute it at one input. -/
def tapeActsWrong : ChangeSpec := { name := "tapeActs", fn := fun _ => fun
  | [d1, d2] => { results := [.lit (.bool false)], args := [d1, d2] }
  | _ => none }
def TapeActsWrongFalsely : Prop := tapeActsRow.holds Tryd.pinned (OpenSpec.ofChange tapeActsWrong)

/-- 'gavelhouselaw2.PursePays': WHATEVER THE INPUT: true; the input reads as it did. -/
def pursePaysSpec : ChangeSpec := { name := "pursePays", fn := fun _ => fun
  | [d] => { results := [.lit (.bool true)], args := [d] }
  | _ => none }
def pursePaysRow : OpenClaim := { program := "ytfeeibealokhfaadoor", sum := "00ebbc8135258d8a262ae1aa28b1a0727b67f285fcaf3d72361a4283c2b8a06f", func := "gavelhouse/gavelhouselaw2.PursePays", spec := "pursePays", inPlace := ["internal/reflectlite.ValueOf", "(internal/reflectlite.Value).Type", "(internal/reflectlite.Value).IsNil", "internal/reflectlite.TypeOf", "(internal/reflectlite.Value).Elem", "(internal/reflectlite.Value).Set"], unfollowed := true, recurses := true, named := ["gavelhouse/api.ErrBound", "gavelhouse/api.ErrFull", "gavelhouse/api.ErrPoor", "gavelhouse/api.ErrText", "gavelhouse/api.ErrShape", "gavelhouse/api.ErrKind", "gavelhouse/api.ErrSum", "gavelhouse/api.ErrNone", "gavelhouse/api.ErrExist", "gavelhouse/api.ErrOff", "gavelhouse/api.ErrState", "gavelhouse/api.ErrOrder", "errors.errorType"], apart := false, laid := [("errors.errorType", laid_errors_errorType), ("gavelhouse/api.ErrText", laid_gavelhouse_api_ErrText), ("gavelhouse/api.ErrBound", laid_gavelhouse_api_ErrBound), ("gavelhouse/api.ErrShape", laid_gavelhouse_api_ErrShape), ("gavelhouse/api.ErrKind", laid_gavelhouse_api_ErrKind), ("gavelhouse/api.ErrSum", laid_gavelhouse_api_ErrSum), ("gavelhouse/api.ErrNone", laid_gavelhouse_api_ErrNone), ("gavelhouse/api.ErrExist", laid_gavelhouse_api_ErrExist), ("gavelhouse/api.ErrFull", laid_gavelhouse_api_ErrFull), ("gavelhouse/api.ErrOff", laid_gavelhouse_api_ErrOff), ("gavelhouse/api.ErrPoor", laid_gavelhouse_api_ErrPoor), ("gavelhouse/api.ErrState", laid_gavelhouse_api_ErrState), ("gavelhouse/api.ErrOrder", laid_gavelhouse_api_ErrOrder)] }
def PursePaysSaid : Prop := pursePaysRow.holds Tryd.pinned (OpenSpec.ofChange pursePaysSpec)

/-- ITS FALSE NEIGHBOUR: 'it returns false'. Refute it at one input. -/
def pursePaysWrong : ChangeSpec := { name := "pursePays", fn := fun _ => fun
  | [d] => { results := [.lit (.bool false)], args := [d] }
  | _ => none }
def PursePaysWrongFalsely : Prop := pursePaysRow.holds Tryd.pinned (OpenSpec.ofChange pursePaysWrong)

/-- 'gavelhouselaw2.BookKeeps': WHATEVER THE INPUT: true; the input reads as it did. -/
def bookKeepsSpec : ChangeSpec := { name := "bookKeeps", fn := fun _ => fun
  | [d] => { results := [.lit (.bool true)], args := [d] }
  | _ => none }
def bookKeepsRow : OpenClaim := { program := "ytfeeibealokhfaadoor", sum := "00ebbc8135258d8a262ae1aa28b1a0727b67f285fcaf3d72361a4283c2b8a06f", func := "gavelhouse/gavelhouselaw2.BookKeeps", spec := "bookKeeps", unfollowed := true, recurses := true, named := ["gavelhouse/api.ErrBound", "gavelhouse/api.ErrExist", "gavelhouse/api.ErrFull", "gavelhouse/api.ErrNone"], apart := false, laid := [("gavelhouse/api.ErrBound", laid_gavelhouse_api_ErrBound), ("gavelhouse/api.ErrNone", laid_gavelhouse_api_ErrNone), ("gavelhouse/api.ErrExist", laid_gavelhouse_api_ErrExist), ("gavelhouse/api.ErrFull", laid_gavelhouse_api_ErrFull)] }
def BookKeepsSaid : Prop := bookKeepsRow.holds Tryd.pinned (OpenSpec.ofChange bookKeepsSpec)

/-- ITS FALSE NEIGHBOUR: 'it returns false'. Refute it at one input. -/
def bookKeepsWrong : ChangeSpec := { name := "bookKeeps", fn := fun _ => fun
  | [d] => { results := [.lit (.bool false)], args := [d] }
  | _ => none }
def BookKeepsWrongFalsely : Prop := bookKeepsRow.holds Tryd.pinned (OpenSpec.ofChange bookKeepsWrong)

/-- 'gavelhouselaw2.BookActs': WHATEVER THE INPUT: true; the input reads as it did. -/
def bookActsSpec : ChangeSpec := { name := "bookActs", fn := fun _ => fun
  | [d1, d2] => { results := [.lit (.bool true)], args := [d1, d2] }
  | _ => none }
def bookActsRow : OpenClaim := { program := "ytfeeibealokhfaadoor", sum := "00ebbc8135258d8a262ae1aa28b1a0727b67f285fcaf3d72361a4283c2b8a06f", func := "gavelhouse/gavelhouselaw2.BookActs", spec := "bookActs", inPlace := ["internal/reflectlite.ValueOf", "(internal/reflectlite.Value).Type", "(internal/reflectlite.Value).IsNil", "internal/reflectlite.TypeOf", "(internal/reflectlite.Value).Elem", "(internal/reflectlite.Value).Set"], unfollowed := true, recurses := true, named := ["gavelhouse/api.ErrBound", "gavelhouse/api.ErrExist", "gavelhouse/api.ErrFull", "gavelhouse/api.ErrNone", "gavelhouse/api.ErrText", "gavelhouse/api.ErrShape", "gavelhouse/api.ErrKind", "gavelhouse/api.ErrSum", "gavelhouse/api.ErrOff", "gavelhouse/api.ErrPoor", "gavelhouse/api.ErrState", "gavelhouse/api.ErrOrder", "errors.errorType"], apart := false, laid := [("errors.errorType", laid_errors_errorType), ("gavelhouse/api.ErrText", laid_gavelhouse_api_ErrText), ("gavelhouse/api.ErrBound", laid_gavelhouse_api_ErrBound), ("gavelhouse/api.ErrShape", laid_gavelhouse_api_ErrShape), ("gavelhouse/api.ErrKind", laid_gavelhouse_api_ErrKind), ("gavelhouse/api.ErrSum", laid_gavelhouse_api_ErrSum), ("gavelhouse/api.ErrNone", laid_gavelhouse_api_ErrNone), ("gavelhouse/api.ErrExist", laid_gavelhouse_api_ErrExist), ("gavelhouse/api.ErrFull", laid_gavelhouse_api_ErrFull), ("gavelhouse/api.ErrOff", laid_gavelhouse_api_ErrOff), ("gavelhouse/api.ErrPoor", laid_gavelhouse_api_ErrPoor), ("gavelhouse/api.ErrState", laid_gavelhouse_api_ErrState), ("gavelhouse/api.ErrOrder", laid_gavelhouse_api_ErrOrder)] }
def BookActsSaid : Prop := bookActsRow.holds Tryd.pinned (OpenSpec.ofChange bookActsSpec)

/-- ITS FALSE NEIGHBOUR: 'it returns false'. Refute it at one input. -/
def bookActsWrong : ChangeSpec := { name := "bookActs", fn := fun _ => fun
  | [d1, d2] => { results := [.lit (.bool false)], args := [d1, d2] }
  | _ => none }
def BookActsWrongFalsely : Prop := bookActsRow.holds Tryd.pinned (OpenSpec.ofChange bookActsWrong)

/- THE SECOND FORM. 'bulk': how many values and letters a reading holds, each counted each time it is reached (what is shared counts as often as it is met; a slice's spare places count too). A statement '..UptoSaid' is the law's where the arguments, and the package variables that the reading takes, are together of bulk at most 1048576: NARROWER than '..Said'. Prove '..Said' where nothing that the law and all that it calls make is longer than what came in: it says more and counts as full. Else prove '..UptoSaid'. A law counts once. -/
mutual
def uptoBulk {H : Type} : DataW H → Nat
  | .lit (.string bytes) => bytes.length + 1
  | .lit _ => 1
  | .nil => 1
  | .ptr d => uptoBulk d + 1
  | .slice elems spare => uptoBulkAll elems + uptoBulkAll spare + 1
  | .agg parts => uptoBulkAll parts + 1
  | .iface _ d => uptoBulk d + 1
  | .map entries => uptoBulkEntries entries + 1
  | .held _ => 1
def uptoBulkAll {H : Type} : List (DataW H) → Nat
  | [] => 0
  | d :: r => uptoBulk d + uptoBulkAll r
def uptoBulkEntries {H : Type} : List (Lit × DataW H) → Nat
  | [] => 0
  | x :: r => uptoBulkEntry x + uptoBulkEntries r
def uptoBulkEntry {H : Type} : Lit × DataW H → Nat
  | (.string bytes, d) => bytes.length + uptoBulk d + 1
  | (_, d) => uptoBulk d + 1
 end
def uptoSmall : (H : Type) → List (DataW H) → Bool := fun _ ds => decide (uptoBulkAll ds ≤ 1048576)
def OpenSpec.upto (s : _root_.Go.ChangeSpec) : _root_.Go.OpenSpec := { _root_.Go.OpenSpec.ofChange s with cond := some uptoSmall }

/-- 'gavelhouselaw2.PurseBack', WHERE WHAT IT READS IS OF BULK AT MOST 1048576: true; the input reads as it did. -/
def purseBackUptoRow : OpenClaim := { program := "ytfeeibealokhfaadoor", sum := "00ebbc8135258d8a262ae1aa28b1a0727b67f285fcaf3d72361a4283c2b8a06f", func := "gavelhouse/gavelhouselaw2.PurseBack", spec := "purseBack", named := ["gavelhouse/api.ErrBound", "gavelhouse/api.ErrFull", "gavelhouse/api.ErrPoor"], apart := false, laid := [("gavelhouse/api.ErrBound", laid_gavelhouse_api_ErrBound), ("gavelhouse/api.ErrFull", laid_gavelhouse_api_ErrFull), ("gavelhouse/api.ErrPoor", laid_gavelhouse_api_ErrPoor)], narrowed := true }
def PurseBackUptoSaid : Prop := purseBackUptoRow.holds Tryd.pinned (OpenSpec.upto purseBackSpec)

/-- 'gavelhouselaw1.TapeReads', WHERE WHAT IT READS IS OF BULK AT MOST 1048576: true; the input reads as it did. -/
def tapeReadsUptoRow : OpenClaim := { program := "ytfeeibealokhfaadoor", sum := "00ebbc8135258d8a262ae1aa28b1a0727b67f285fcaf3d72361a4283c2b8a06f", func := "gavelhouse/gavelhouselaw1.TapeReads", spec := "tapeReads", named := ["gavelhouse/api.ErrBound", "gavelhouse/api.ErrShape", "gavelhouse/api.ErrFull", "gavelhouse/api.ErrOff"], apart := false, laid := [("gavelhouse/api.ErrBound", laid_gavelhouse_api_ErrBound), ("gavelhouse/api.ErrShape", laid_gavelhouse_api_ErrShape), ("gavelhouse/api.ErrFull", laid_gavelhouse_api_ErrFull), ("gavelhouse/api.ErrOff", laid_gavelhouse_api_ErrOff)], narrowed := true }
def TapeReadsUptoSaid : Prop := tapeReadsUptoRow.holds Tryd.pinned (OpenSpec.upto tapeReadsSpec)

/-- 'gavelhouselaw2.BookOrder', WHERE WHAT IT READS IS OF BULK AT MOST 1048576: true; the input reads as it did. -/
def bookOrderUptoRow : OpenClaim := { program := "ytfeeibealokhfaadoor", sum := "00ebbc8135258d8a262ae1aa28b1a0727b67f285fcaf3d72361a4283c2b8a06f", func := "gavelhouse/gavelhouselaw2.BookOrder", spec := "bookOrder", unfollowed := true, recurses := true, named := ["gavelhouse/api.ErrBound", "gavelhouse/api.ErrExist", "gavelhouse/api.ErrFull", "gavelhouse/api.ErrNone"], apart := false, laid := [("gavelhouse/api.ErrBound", laid_gavelhouse_api_ErrBound), ("gavelhouse/api.ErrNone", laid_gavelhouse_api_ErrNone), ("gavelhouse/api.ErrExist", laid_gavelhouse_api_ErrExist), ("gavelhouse/api.ErrFull", laid_gavelhouse_api_ErrFull)], narrowed := true }
def BookOrderUptoSaid : Prop := bookOrderUptoRow.holds Tryd.pinned (OpenSpec.upto bookOrderSpec)

/-- 'gavelhouselaw1.TapeCuts', WHERE WHAT IT READS IS OF BULK AT MOST 1048576: true; the input reads as it did. -/
def tapeCutsUptoRow : OpenClaim := { program := "ytfeeibealokhfaadoor", sum := "00ebbc8135258d8a262ae1aa28b1a0727b67f285fcaf3d72361a4283c2b8a06f", func := "gavelhouse/gavelhouselaw1.TapeCuts", spec := "tapeCuts", named := ["gavelhouse/api.ErrBound", "gavelhouse/api.ErrShape", "gavelhouse/api.ErrFull", "gavelhouse/api.ErrOff"], apart := false, laid := [("gavelhouse/api.ErrBound", laid_gavelhouse_api_ErrBound), ("gavelhouse/api.ErrShape", laid_gavelhouse_api_ErrShape), ("gavelhouse/api.ErrFull", laid_gavelhouse_api_ErrFull), ("gavelhouse/api.ErrOff", laid_gavelhouse_api_ErrOff)], narrowed := true }
def TapeCutsUptoSaid : Prop := tapeCutsUptoRow.holds Tryd.pinned (OpenSpec.upto tapeCutsSpec)

/-- 'gavelhouselaw2.PurseKeeps', WHERE WHAT IT READS IS OF BULK AT MOST 1048576: true; the input reads as it did. -/
def purseKeepsUptoRow : OpenClaim := { program := "ytfeeibealokhfaadoor", sum := "00ebbc8135258d8a262ae1aa28b1a0727b67f285fcaf3d72361a4283c2b8a06f", func := "gavelhouse/gavelhouselaw2.PurseKeeps", spec := "purseKeeps", named := ["gavelhouse/api.ErrBound", "gavelhouse/api.ErrFull", "gavelhouse/api.ErrPoor", "gavelhouse/api.ErrShape", "gavelhouse/api.ErrOrder"], apart := false, laid := [("gavelhouse/api.ErrBound", laid_gavelhouse_api_ErrBound), ("gavelhouse/api.ErrShape", laid_gavelhouse_api_ErrShape), ("gavelhouse/api.ErrFull", laid_gavelhouse_api_ErrFull), ("gavelhouse/api.ErrPoor", laid_gavelhouse_api_ErrPoor), ("gavelhouse/api.ErrOrder", laid_gavelhouse_api_ErrOrder)], narrowed := true }
def PurseKeepsUptoSaid : Prop := purseKeepsUptoRow.holds Tryd.pinned (OpenSpec.upto purseKeepsSpec)

/-- 'gavelhouselaw1.TapeActs', WHERE WHAT IT READS IS OF BULK AT MOST 1048576: true; the input reads as it did. -/
def tapeActsUptoRow : OpenClaim := { program := "ytfeeibealokhfaadoor", sum := "00ebbc8135258d8a262ae1aa28b1a0727b67f285fcaf3d72361a4283c2b8a06f", func := "gavelhouse/gavelhouselaw1.TapeActs", spec := "tapeActs", inPlace := ["internal/reflectlite.ValueOf", "(internal/reflectlite.Value).Type", "(internal/reflectlite.Value).IsNil", "internal/reflectlite.TypeOf", "(internal/reflectlite.Value).Elem", "(internal/reflectlite.Value).Set"], unfollowed := true, recurses := true, named := ["gavelhouse/api.ErrBound", "gavelhouse/api.ErrShape", "gavelhouse/api.ErrFull", "gavelhouse/api.ErrOff", "gavelhouse/api.ErrText", "gavelhouse/api.ErrKind", "gavelhouse/api.ErrSum", "gavelhouse/api.ErrNone", "gavelhouse/api.ErrExist", "gavelhouse/api.ErrPoor", "gavelhouse/api.ErrState", "gavelhouse/api.ErrOrder", "errors.errorType"], apart := false, laid := [("errors.errorType", laid_errors_errorType), ("gavelhouse/api.ErrText", laid_gavelhouse_api_ErrText), ("gavelhouse/api.ErrBound", laid_gavelhouse_api_ErrBound), ("gavelhouse/api.ErrShape", laid_gavelhouse_api_ErrShape), ("gavelhouse/api.ErrKind", laid_gavelhouse_api_ErrKind), ("gavelhouse/api.ErrSum", laid_gavelhouse_api_ErrSum), ("gavelhouse/api.ErrNone", laid_gavelhouse_api_ErrNone), ("gavelhouse/api.ErrExist", laid_gavelhouse_api_ErrExist), ("gavelhouse/api.ErrFull", laid_gavelhouse_api_ErrFull), ("gavelhouse/api.ErrOff", laid_gavelhouse_api_ErrOff), ("gavelhouse/api.ErrPoor", laid_gavelhouse_api_ErrPoor), ("gavelhouse/api.ErrState", laid_gavelhouse_api_ErrState), ("gavelhouse/api.ErrOrder", laid_gavelhouse_api_ErrOrder)], narrowed := true }
def TapeActsUptoSaid : Prop := tapeActsUptoRow.holds Tryd.pinned (OpenSpec.upto tapeActsSpec)

/-- 'gavelhouselaw2.PursePays', WHERE WHAT IT READS IS OF BULK AT MOST 1048576: true; the input reads as it did. -/
def pursePaysUptoRow : OpenClaim := { program := "ytfeeibealokhfaadoor", sum := "00ebbc8135258d8a262ae1aa28b1a0727b67f285fcaf3d72361a4283c2b8a06f", func := "gavelhouse/gavelhouselaw2.PursePays", spec := "pursePays", inPlace := ["internal/reflectlite.ValueOf", "(internal/reflectlite.Value).Type", "(internal/reflectlite.Value).IsNil", "internal/reflectlite.TypeOf", "(internal/reflectlite.Value).Elem", "(internal/reflectlite.Value).Set"], unfollowed := true, recurses := true, named := ["gavelhouse/api.ErrBound", "gavelhouse/api.ErrFull", "gavelhouse/api.ErrPoor", "gavelhouse/api.ErrText", "gavelhouse/api.ErrShape", "gavelhouse/api.ErrKind", "gavelhouse/api.ErrSum", "gavelhouse/api.ErrNone", "gavelhouse/api.ErrExist", "gavelhouse/api.ErrOff", "gavelhouse/api.ErrState", "gavelhouse/api.ErrOrder", "errors.errorType"], apart := false, laid := [("errors.errorType", laid_errors_errorType), ("gavelhouse/api.ErrText", laid_gavelhouse_api_ErrText), ("gavelhouse/api.ErrBound", laid_gavelhouse_api_ErrBound), ("gavelhouse/api.ErrShape", laid_gavelhouse_api_ErrShape), ("gavelhouse/api.ErrKind", laid_gavelhouse_api_ErrKind), ("gavelhouse/api.ErrSum", laid_gavelhouse_api_ErrSum), ("gavelhouse/api.ErrNone", laid_gavelhouse_api_ErrNone), ("gavelhouse/api.ErrExist", laid_gavelhouse_api_ErrExist), ("gavelhouse/api.ErrFull", laid_gavelhouse_api_ErrFull), ("gavelhouse/api.ErrOff", laid_gavelhouse_api_ErrOff), ("gavelhouse/api.ErrPoor", laid_gavelhouse_api_ErrPoor), ("gavelhouse/api.ErrState", laid_gavelhouse_api_ErrState), ("gavelhouse/api.ErrOrder", laid_gavelhouse_api_ErrOrder)], narrowed := true }
def PursePaysUptoSaid : Prop := pursePaysUptoRow.holds Tryd.pinned (OpenSpec.upto pursePaysSpec)

/-- 'gavelhouselaw2.BookKeeps', WHERE WHAT IT READS IS OF BULK AT MOST 1048576: true; the input reads as it did. -/
def bookKeepsUptoRow : OpenClaim := { program := "ytfeeibealokhfaadoor", sum := "00ebbc8135258d8a262ae1aa28b1a0727b67f285fcaf3d72361a4283c2b8a06f", func := "gavelhouse/gavelhouselaw2.BookKeeps", spec := "bookKeeps", unfollowed := true, recurses := true, named := ["gavelhouse/api.ErrBound", "gavelhouse/api.ErrExist", "gavelhouse/api.ErrFull", "gavelhouse/api.ErrNone"], apart := false, laid := [("gavelhouse/api.ErrBound", laid_gavelhouse_api_ErrBound), ("gavelhouse/api.ErrNone", laid_gavelhouse_api_ErrNone), ("gavelhouse/api.ErrExist", laid_gavelhouse_api_ErrExist), ("gavelhouse/api.ErrFull", laid_gavelhouse_api_ErrFull)], narrowed := true }
def BookKeepsUptoSaid : Prop := bookKeepsUptoRow.holds Tryd.pinned (OpenSpec.upto bookKeepsSpec)

/-- 'gavelhouselaw2.BookActs', WHERE WHAT IT READS IS OF BULK AT MOST 1048576: true; the input reads as it did. -/
def bookActsUptoRow : OpenClaim := { program := "ytfeeibealokhfaadoor", sum := "00ebbc8135258d8a262ae1aa28b1a0727b67f285fcaf3d72361a4283c2b8a06f", func := "gavelhouse/gavelhouselaw2.BookActs", spec := "bookActs", inPlace := ["internal/reflectlite.ValueOf", "(internal/reflectlite.Value).Type", "(internal/reflectlite.Value).IsNil", "internal/reflectlite.TypeOf", "(internal/reflectlite.Value).Elem", "(internal/reflectlite.Value).Set"], unfollowed := true, recurses := true, named := ["gavelhouse/api.ErrBound", "gavelhouse/api.ErrExist", "gavelhouse/api.ErrFull", "gavelhouse/api.ErrNone", "gavelhouse/api.ErrText", "gavelhouse/api.ErrShape", "gavelhouse/api.ErrKind", "gavelhouse/api.ErrSum", "gavelhouse/api.ErrOff", "gavelhouse/api.ErrPoor", "gavelhouse/api.ErrState", "gavelhouse/api.ErrOrder", "errors.errorType"], apart := false, laid := [("errors.errorType", laid_errors_errorType), ("gavelhouse/api.ErrText", laid_gavelhouse_api_ErrText), ("gavelhouse/api.ErrBound", laid_gavelhouse_api_ErrBound), ("gavelhouse/api.ErrShape", laid_gavelhouse_api_ErrShape), ("gavelhouse/api.ErrKind", laid_gavelhouse_api_ErrKind), ("gavelhouse/api.ErrSum", laid_gavelhouse_api_ErrSum), ("gavelhouse/api.ErrNone", laid_gavelhouse_api_ErrNone), ("gavelhouse/api.ErrExist", laid_gavelhouse_api_ErrExist), ("gavelhouse/api.ErrFull", laid_gavelhouse_api_ErrFull), ("gavelhouse/api.ErrOff", laid_gavelhouse_api_ErrOff), ("gavelhouse/api.ErrPoor", laid_gavelhouse_api_ErrPoor), ("gavelhouse/api.ErrState", laid_gavelhouse_api_ErrState), ("gavelhouse/api.ErrOrder", laid_gavelhouse_api_ErrOrder)], narrowed := true }
def BookActsUptoSaid : Prop := bookActsUptoRow.holds Tryd.pinned (OpenSpec.upto bookActsSpec)

end Rows
end Go.Proofs.YtfeeibealokhfaaDoor
