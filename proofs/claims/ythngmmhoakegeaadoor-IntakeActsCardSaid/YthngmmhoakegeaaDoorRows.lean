/-
  NARROWER THAN 'FOR EVERY INPUT', by the rows' own cells (each row's printed sentence says how): IntakeWaits: laid · BandHalts: laid · IntakeKeeps: laid · WireApart: laid · SessionRises: laid · Names: laid · BandNext: laid · IntakeActs: laid · SessionTakes: laid · WireFrames: laid · WireBursts: laid · WireStreams: laid.
  DERIVED. THE GIVEN ROWS OF THIS SEAT. 12 by the template 'for every input the law returns true; each argument reads behind the call as it read before'; 0 by the template 'total and deterministic' (their statements: YthngmmhoakegeaaDoorTotals.lean).
  GIVEN WITH THE SEED: the statements are not yours to turn. If you find one false, say at which input.
  Laid BY PROGRAM, IN A SANDBOX (cutbox-rows.mjs): the forced cells as the released guide's own fill.sh prints them over the translation 44e6091bdea8f24d… (all of the seat's roots in one cut). By AI agents, Wed Nov 11 2026. No macro, syntax, notation, axiom, sorry.
-/
import Derived.Test.YthngmmhoakegeaaDoorChecked
import GoSem.Claim
import GoSem.ClaimJoined
import GoSem.ClaimMapViews
import Derived.JoinedTies
import Derived.KernelRfl
namespace Go.Proofs.YthngmmhoakegeaaDoor
/- THE CELL 'sum', in the pinned program and in every row, IS THE sha256 OF THE DUMP (.gsa) THAT YthngmmhoakegeaaDoorProg.lean LOADS. Nothing in Lean hashes anything: it is a label: what it is worth is what the hold of that sum in a sandbox is worth. -/
noncomputable def Tryd.pinned : Pinned := { name := "ythngmmhoakegeaadoor", sum := "44e6091bdea8f24d5e43ae752fb3f51a5e1c855aedd7b8bd1775741c3c735afe", checked := Tryd.checked }
namespace Rows
def none {H : Type} : Left H := { results := [], args := [] }

/- WHAT THE LISTED PACKAGE-LEVEL VARIABLES READ AS WHEN THE CALL BEGINS. Each datum BY PROGRAM (the guide's laid-datum.mjs) off the statement by which the dump's own 'gosem.cut.vars' lays the variable. In a bare row this is a premise. The card (YthngmmhoakegeaaDoorCards.lean) ties it to the program's text. -/
def laid_gavelhouse_api_ErrBound {H : Type} : DataW H := .iface "*errors.errorString" (.ptr (.agg [.lit (.string [103, 97, 118, 101, 108, 104, 111, 117, 115, 101, 58, 32, 98, 111, 117, 110, 100])]))
def laid_gavelhouse_api_ErrKind {H : Type} : DataW H := .iface "*errors.errorString" (.ptr (.agg [.lit (.string [103, 97, 118, 101, 108, 104, 111, 117, 115, 101, 58, 32, 107, 105, 110, 100])]))
def laid_gavelhouse_api_ErrFull {H : Type} : DataW H := .iface "*errors.errorString" (.ptr (.agg [.lit (.string [103, 97, 118, 101, 108, 104, 111, 117, 115, 101, 58, 32, 102, 117, 108, 108])]))
def laid_gavelhouse_api_ErrShape {H : Type} : DataW H := .iface "*errors.errorString" (.ptr (.agg [.lit (.string [103, 97, 118, 101, 108, 104, 111, 117, 115, 101, 58, 32, 115, 104, 97, 112, 101])]))
def laid_gavelhouse_api_ErrState {H : Type} : DataW H := .iface "*errors.errorString" (.ptr (.agg [.lit (.string [103, 97, 118, 101, 108, 104, 111, 117, 115, 101, 58, 32, 115, 116, 97, 116, 101])]))
def laid_gavelhouse_api_ErrOrder {H : Type} : DataW H := .iface "*errors.errorString" (.ptr (.agg [.lit (.string [103, 97, 118, 101, 108, 104, 111, 117, 115, 101, 58, 32, 111, 114, 100, 101, 114])]))
def laid_errors_errorType {H : Type} : DataW H := .iface "internal/reflectlite.rtype" (.agg [.ptr (.lit (.string [101, 114, 114, 111, 114]))])
def laid_gavelhouse_api_ErrText {H : Type} : DataW H := .iface "*errors.errorString" (.ptr (.agg [.lit (.string [103, 97, 118, 101, 108, 104, 111, 117, 115, 101, 58, 32, 116, 101, 120, 116])]))
def laid_gavelhouse_api_ErrSum {H : Type} : DataW H := .iface "*errors.errorString" (.ptr (.agg [.lit (.string [103, 97, 118, 101, 108, 104, 111, 117, 115, 101, 58, 32, 115, 117, 109])]))
def laid_gavelhouse_api_ErrNone {H : Type} : DataW H := .iface "*errors.errorString" (.ptr (.agg [.lit (.string [103, 97, 118, 101, 108, 104, 111, 117, 115, 101, 58, 32, 110, 111, 110, 101])]))
def laid_gavelhouse_api_ErrExist {H : Type} : DataW H := .iface "*errors.errorString" (.ptr (.agg [.lit (.string [103, 97, 118, 101, 108, 104, 111, 117, 115, 101, 58, 32, 101, 120, 105, 115, 116])]))
def laid_gavelhouse_api_ErrOff {H : Type} : DataW H := .iface "*errors.errorString" (.ptr (.agg [.lit (.string [103, 97, 118, 101, 108, 104, 111, 117, 115, 101, 58, 32, 111, 102, 102])]))
def laid_gavelhouse_api_ErrPoor {H : Type} : DataW H := .iface "*errors.errorString" (.ptr (.agg [.lit (.string [103, 97, 118, 101, 108, 104, 111, 117, 115, 101, 58, 32, 112, 111, 111, 114])]))

/-- 'gavelhouselaw3.IntakeWaits': WHATEVER THE INPUT: true; the input reads as it did. -/
def intakeWaitsSpec : ChangeSpec := { name := "intakeWaits", fn := fun _ => fun
  | [d1, d2, d3] => { results := [.lit (.bool true)], args := [d1, d2, d3] }
  | _ => none }
def intakeWaitsRow : OpenClaim := { program := "ythngmmhoakegeaadoor", sum := "44e6091bdea8f24d5e43ae752fb3f51a5e1c855aedd7b8bd1775741c3c735afe", func := "gavelhouse/gavelhouselaw3.IntakeWaits", spec := "intakeWaits", named := ["gavelhouse/api.ErrKind", "gavelhouse/api.ErrBound", "gavelhouse/api.ErrFull"], apart := false, laid := [("gavelhouse/api.ErrBound", laid_gavelhouse_api_ErrBound), ("gavelhouse/api.ErrKind", laid_gavelhouse_api_ErrKind), ("gavelhouse/api.ErrFull", laid_gavelhouse_api_ErrFull)] }
def IntakeWaitsSaid : Prop := intakeWaitsRow.holds Tryd.pinned (OpenSpec.ofChange intakeWaitsSpec)

/-- ITS FALSE NEIGHBOUR: 'it returns false'. Refute it at one input. -/
def intakeWaitsWrong : ChangeSpec := { name := "intakeWaits", fn := fun _ => fun
  | [d1, d2, d3] => { results := [.lit (.bool false)], args := [d1, d2, d3] }
  | _ => none }
def IntakeWaitsWrongFalsely : Prop := intakeWaitsRow.holds Tryd.pinned (OpenSpec.ofChange intakeWaitsWrong)

/-- 'gavelhouselaw2.BandHalts': WHATEVER THE INPUT: true; the input reads as it did. -/
def bandHaltsSpec : ChangeSpec := { name := "bandHalts", fn := fun _ => fun
  | [d1, d2, d3, d4] => { results := [.lit (.bool true)], args := [d1, d2, d3, d4] }
  | _ => none }
def bandHaltsRow : OpenClaim := { program := "ythngmmhoakegeaadoor", sum := "44e6091bdea8f24d5e43ae752fb3f51a5e1c855aedd7b8bd1775741c3c735afe", func := "gavelhouse/gavelhouselaw2.BandHalts", spec := "bandHalts", named := ["gavelhouse/api.ErrBound"], apart := false, laid := [("gavelhouse/api.ErrBound", laid_gavelhouse_api_ErrBound)] }
def BandHaltsSaid : Prop := bandHaltsRow.holds Tryd.pinned (OpenSpec.ofChange bandHaltsSpec)

/-- ITS FALSE NEIGHBOUR: 'it returns false'. Refute it at one input. -/
def bandHaltsWrong : ChangeSpec := { name := "bandHalts", fn := fun _ => fun
  | [d1, d2, d3, d4] => { results := [.lit (.bool false)], args := [d1, d2, d3, d4] }
  | _ => none }
def BandHaltsWrongFalsely : Prop := bandHaltsRow.holds Tryd.pinned (OpenSpec.ofChange bandHaltsWrong)

/-- 'gavelhouselaw3.IntakeKeeps': WHATEVER THE INPUT: true; the input reads as it did. -/
def intakeKeepsSpec : ChangeSpec := { name := "intakeKeeps", fn := fun _ => fun
  | [d] => { results := [.lit (.bool true)], args := [d] }
  | _ => none }
def intakeKeepsRow : OpenClaim := { program := "ythngmmhoakegeaadoor", sum := "44e6091bdea8f24d5e43ae752fb3f51a5e1c855aedd7b8bd1775741c3c735afe", func := "gavelhouse/gavelhouselaw3.IntakeKeeps", spec := "intakeKeeps", named := ["gavelhouse/api.ErrKind", "gavelhouse/api.ErrBound", "gavelhouse/api.ErrFull"], apart := false, laid := [("gavelhouse/api.ErrBound", laid_gavelhouse_api_ErrBound), ("gavelhouse/api.ErrKind", laid_gavelhouse_api_ErrKind), ("gavelhouse/api.ErrFull", laid_gavelhouse_api_ErrFull)] }
def IntakeKeepsSaid : Prop := intakeKeepsRow.holds Tryd.pinned (OpenSpec.ofChange intakeKeepsSpec)

/-- ITS FALSE NEIGHBOUR: 'it returns false'. Refute it at one input. -/
def intakeKeepsWrong : ChangeSpec := { name := "intakeKeeps", fn := fun _ => fun
  | [d] => { results := [.lit (.bool false)], args := [d] }
  | _ => none }
def IntakeKeepsWrongFalsely : Prop := intakeKeepsRow.holds Tryd.pinned (OpenSpec.ofChange intakeKeepsWrong)

/-- 'gavelhouselaw1.WireApart': WHATEVER THE INPUT: true; the input reads as it did. -/
def wireApartSpec : ChangeSpec := { name := "wireApart", fn := fun _ => fun
  | [d1, d2] => { results := [.lit (.bool true)], args := [d1, d2] }
  | _ => none }
def wireApartRow : OpenClaim := { program := "ythngmmhoakegeaadoor", sum := "44e6091bdea8f24d5e43ae752fb3f51a5e1c855aedd7b8bd1775741c3c735afe", func := "gavelhouse/gavelhouselaw1.WireApart", spec := "wireApart", named := ["gavelhouse/api.ErrShape", "gavelhouse/api.ErrKind", "gavelhouse/api.ErrBound"], apart := false, laid := [("gavelhouse/api.ErrBound", laid_gavelhouse_api_ErrBound), ("gavelhouse/api.ErrShape", laid_gavelhouse_api_ErrShape), ("gavelhouse/api.ErrKind", laid_gavelhouse_api_ErrKind)] }
def WireApartSaid : Prop := wireApartRow.holds Tryd.pinned (OpenSpec.ofChange wireApartSpec)

/-- ITS FALSE NEIGHBOUR: 'it returns false'. Refute it at one input. -/
def wireApartWrong : ChangeSpec := { name := "wireApart", fn := fun _ => fun
  | [d1, d2] => { results := [.lit (.bool false)], args := [d1, d2] }
  | _ => none }
def WireApartWrongFalsely : Prop := wireApartRow.holds Tryd.pinned (OpenSpec.ofChange wireApartWrong)

/-- 'gavelhouselaw2.SessionRises': WHATEVER THE INPUT: true; the input reads as it did. -/
def sessionRisesSpec : ChangeSpec := { name := "sessionRises", fn := fun _ => fun
  | [d] => { results := [.lit (.bool true)], args := [d] }
  | _ => none }
def sessionRisesRow : OpenClaim := { program := "ythngmmhoakegeaadoor", sum := "44e6091bdea8f24d5e43ae752fb3f51a5e1c855aedd7b8bd1775741c3c735afe", func := "gavelhouse/gavelhouselaw2.SessionRises", spec := "sessionRises", named := ["gavelhouse/api.ErrState", "gavelhouse/api.ErrOrder", "gavelhouse/api.ErrShape", "gavelhouse/api.ErrKind", "gavelhouse/api.ErrBound"], apart := false, laid := [("gavelhouse/api.ErrBound", laid_gavelhouse_api_ErrBound), ("gavelhouse/api.ErrShape", laid_gavelhouse_api_ErrShape), ("gavelhouse/api.ErrKind", laid_gavelhouse_api_ErrKind), ("gavelhouse/api.ErrState", laid_gavelhouse_api_ErrState), ("gavelhouse/api.ErrOrder", laid_gavelhouse_api_ErrOrder)] }
def SessionRisesSaid : Prop := sessionRisesRow.holds Tryd.pinned (OpenSpec.ofChange sessionRisesSpec)

/-- ITS FALSE NEIGHBOUR: 'it returns false'. Refute it at one input. -/
def sessionRisesWrong : ChangeSpec := { name := "sessionRises", fn := fun _ => fun
  | [d] => { results := [.lit (.bool false)], args := [d] }
  | _ => none }
def SessionRisesWrongFalsely : Prop := sessionRisesRow.holds Tryd.pinned (OpenSpec.ofChange sessionRisesWrong)

/-- 'gavelhouselaw1.Names': WHATEVER THE INPUT: true; the input reads as it did. -/
def namesSpec : ChangeSpec := { name := "names", fn := fun _ => fun
  | [] => { results := [.lit (.bool true)], args := [] }
  | _ => none }
def namesRow : OpenClaim := { program := "ythngmmhoakegeaadoor", sum := "44e6091bdea8f24d5e43ae752fb3f51a5e1c855aedd7b8bd1775741c3c735afe", func := "gavelhouse/gavelhouselaw1.Names", spec := "names", inPlace := ["internal/reflectlite.ValueOf", "(internal/reflectlite.Value).Type", "(internal/reflectlite.Value).IsNil", "internal/reflectlite.TypeOf", "(internal/reflectlite.Value).Elem", "(internal/reflectlite.Value).Set"], unfollowed := true, recurses := true, named := ["gavelhouse/api.ErrText", "gavelhouse/api.ErrBound", "gavelhouse/api.ErrShape", "gavelhouse/api.ErrKind", "gavelhouse/api.ErrSum", "gavelhouse/api.ErrNone", "gavelhouse/api.ErrExist", "gavelhouse/api.ErrFull", "gavelhouse/api.ErrOff", "gavelhouse/api.ErrPoor", "gavelhouse/api.ErrState", "gavelhouse/api.ErrOrder", "errors.errorType"], apart := false, laid := [("errors.errorType", laid_errors_errorType), ("gavelhouse/api.ErrText", laid_gavelhouse_api_ErrText), ("gavelhouse/api.ErrBound", laid_gavelhouse_api_ErrBound), ("gavelhouse/api.ErrShape", laid_gavelhouse_api_ErrShape), ("gavelhouse/api.ErrKind", laid_gavelhouse_api_ErrKind), ("gavelhouse/api.ErrSum", laid_gavelhouse_api_ErrSum), ("gavelhouse/api.ErrNone", laid_gavelhouse_api_ErrNone), ("gavelhouse/api.ErrExist", laid_gavelhouse_api_ErrExist), ("gavelhouse/api.ErrFull", laid_gavelhouse_api_ErrFull), ("gavelhouse/api.ErrOff", laid_gavelhouse_api_ErrOff), ("gavelhouse/api.ErrPoor", laid_gavelhouse_api_ErrPoor), ("gavelhouse/api.ErrState", laid_gavelhouse_api_ErrState), ("gavelhouse/api.ErrOrder", laid_gavelhouse_api_ErrOrder)] }
def NamesSaid : Prop := namesRow.holds Tryd.pinned (OpenSpec.ofChange namesSpec)

/-- ITS FALSE NEIGHBOUR: 'it returns false'. Refute it at one input. -/
def namesWrong : ChangeSpec := { name := "names", fn := fun _ => fun
  | [] => { results := [.lit (.bool false)], args := [] }
  | _ => none }
def NamesWrongFalsely : Prop := namesRow.holds Tryd.pinned (OpenSpec.ofChange namesWrong)

/-- 'gavelhouselaw2.BandNext': WHATEVER THE INPUT: true; the input reads as it did. -/
def bandNextSpec : ChangeSpec := { name := "bandNext", fn := fun _ => fun
  | [d1, d2, d3, d4, d5, d6] => { results := [.lit (.bool true)], args := [d1, d2, d3, d4, d5, d6] }
  | _ => none }
def bandNextRow : OpenClaim := { program := "ythngmmhoakegeaadoor", sum := "44e6091bdea8f24d5e43ae752fb3f51a5e1c855aedd7b8bd1775741c3c735afe", func := "gavelhouse/gavelhouselaw2.BandNext", spec := "bandNext", inPlace := ["internal/reflectlite.ValueOf", "(internal/reflectlite.Value).Type", "(internal/reflectlite.Value).IsNil", "internal/reflectlite.TypeOf", "(internal/reflectlite.Value).Elem", "(internal/reflectlite.Value).Set"], unfollowed := true, recurses := true, named := ["gavelhouse/api.ErrBound", "gavelhouse/api.ErrText", "gavelhouse/api.ErrShape", "gavelhouse/api.ErrKind", "gavelhouse/api.ErrSum", "gavelhouse/api.ErrNone", "gavelhouse/api.ErrExist", "gavelhouse/api.ErrFull", "gavelhouse/api.ErrOff", "gavelhouse/api.ErrPoor", "gavelhouse/api.ErrState", "gavelhouse/api.ErrOrder", "errors.errorType"], apart := false, laid := [("errors.errorType", laid_errors_errorType), ("gavelhouse/api.ErrText", laid_gavelhouse_api_ErrText), ("gavelhouse/api.ErrBound", laid_gavelhouse_api_ErrBound), ("gavelhouse/api.ErrShape", laid_gavelhouse_api_ErrShape), ("gavelhouse/api.ErrKind", laid_gavelhouse_api_ErrKind), ("gavelhouse/api.ErrSum", laid_gavelhouse_api_ErrSum), ("gavelhouse/api.ErrNone", laid_gavelhouse_api_ErrNone), ("gavelhouse/api.ErrExist", laid_gavelhouse_api_ErrExist), ("gavelhouse/api.ErrFull", laid_gavelhouse_api_ErrFull), ("gavelhouse/api.ErrOff", laid_gavelhouse_api_ErrOff), ("gavelhouse/api.ErrPoor", laid_gavelhouse_api_ErrPoor), ("gavelhouse/api.ErrState", laid_gavelhouse_api_ErrState), ("gavelhouse/api.ErrOrder", laid_gavelhouse_api_ErrOrder)] }
def BandNextSaid : Prop := bandNextRow.holds Tryd.pinned (OpenSpec.ofChange bandNextSpec)

/-- ITS FALSE NEIGHBOUR: 'it returns false'. Refute it at one input. -/
def bandNextWrong : ChangeSpec := { name := "bandNext", fn := fun _ => fun
  | [d1, d2, d3, d4, d5, d6] => { results := [.lit (.bool false)], args := [d1, d2, d3, d4, d5, d6] }
  | _ => none }
def BandNextWrongFalsely : Prop := bandNextRow.holds Tryd.pinned (OpenSpec.ofChange bandNextWrong)

/-- 'gavelhouselaw3.IntakeActs': WHATEVER THE INPUT: true; the input reads as it did. -/
def intakeActsSpec : ChangeSpec := { name := "intakeActs", fn := fun _ => fun
  | [d] => { results := [.lit (.bool true)], args := [d] }
  | _ => none }
def intakeActsRow : OpenClaim := { program := "ythngmmhoakegeaadoor", sum := "44e6091bdea8f24d5e43ae752fb3f51a5e1c855aedd7b8bd1775741c3c735afe", func := "gavelhouse/gavelhouselaw3.IntakeActs", spec := "intakeActs", inPlace := ["internal/reflectlite.ValueOf", "(internal/reflectlite.Value).Type", "(internal/reflectlite.Value).IsNil", "internal/reflectlite.TypeOf", "(internal/reflectlite.Value).Elem", "(internal/reflectlite.Value).Set"], unfollowed := true, recurses := true, named := ["gavelhouse/api.ErrKind", "gavelhouse/api.ErrBound", "gavelhouse/api.ErrFull", "gavelhouse/api.ErrText", "gavelhouse/api.ErrShape", "gavelhouse/api.ErrSum", "gavelhouse/api.ErrNone", "gavelhouse/api.ErrExist", "gavelhouse/api.ErrOff", "gavelhouse/api.ErrPoor", "gavelhouse/api.ErrState", "gavelhouse/api.ErrOrder", "errors.errorType"], apart := false, laid := [("errors.errorType", laid_errors_errorType), ("gavelhouse/api.ErrText", laid_gavelhouse_api_ErrText), ("gavelhouse/api.ErrBound", laid_gavelhouse_api_ErrBound), ("gavelhouse/api.ErrShape", laid_gavelhouse_api_ErrShape), ("gavelhouse/api.ErrKind", laid_gavelhouse_api_ErrKind), ("gavelhouse/api.ErrSum", laid_gavelhouse_api_ErrSum), ("gavelhouse/api.ErrNone", laid_gavelhouse_api_ErrNone), ("gavelhouse/api.ErrExist", laid_gavelhouse_api_ErrExist), ("gavelhouse/api.ErrFull", laid_gavelhouse_api_ErrFull), ("gavelhouse/api.ErrOff", laid_gavelhouse_api_ErrOff), ("gavelhouse/api.ErrPoor", laid_gavelhouse_api_ErrPoor), ("gavelhouse/api.ErrState", laid_gavelhouse_api_ErrState), ("gavelhouse/api.ErrOrder", laid_gavelhouse_api_ErrOrder)] }
def IntakeActsSaid : Prop := intakeActsRow.holds Tryd.pinned (OpenSpec.ofChange intakeActsSpec)

/-- ITS FALSE NEIGHBOUR: 'it returns false'. Refute it at one input. -/
def intakeActsWrong : ChangeSpec := { name := "intakeActs", fn := fun _ => fun
  | [d] => { results := [.lit (.bool false)], args := [d] }
  | _ => none }
def IntakeActsWrongFalsely : Prop := intakeActsRow.holds Tryd.pinned (OpenSpec.ofChange intakeActsWrong)

/-- 'gavelhouselaw2.SessionTakes': WHATEVER THE INPUT: true; the input reads as it did. -/
def sessionTakesSpec : ChangeSpec := { name := "sessionTakes", fn := fun _ => fun
  | [d1, d2, d3, d4, d5] => { results := [.lit (.bool true)], args := [d1, d2, d3, d4, d5] }
  | _ => none }
def sessionTakesRow : OpenClaim := { program := "ythngmmhoakegeaadoor", sum := "44e6091bdea8f24d5e43ae752fb3f51a5e1c855aedd7b8bd1775741c3c735afe", func := "gavelhouse/gavelhouselaw2.SessionTakes", spec := "sessionTakes", inPlace := ["internal/reflectlite.ValueOf", "(internal/reflectlite.Value).Type", "(internal/reflectlite.Value).IsNil", "internal/reflectlite.TypeOf", "(internal/reflectlite.Value).Elem", "(internal/reflectlite.Value).Set"], unfollowed := true, recurses := true, named := ["gavelhouse/api.ErrState", "gavelhouse/api.ErrOrder", "gavelhouse/api.ErrShape", "gavelhouse/api.ErrKind", "gavelhouse/api.ErrBound", "gavelhouse/api.ErrText", "gavelhouse/api.ErrSum", "gavelhouse/api.ErrNone", "gavelhouse/api.ErrExist", "gavelhouse/api.ErrFull", "gavelhouse/api.ErrOff", "gavelhouse/api.ErrPoor", "errors.errorType"], apart := false, laid := [("errors.errorType", laid_errors_errorType), ("gavelhouse/api.ErrText", laid_gavelhouse_api_ErrText), ("gavelhouse/api.ErrBound", laid_gavelhouse_api_ErrBound), ("gavelhouse/api.ErrShape", laid_gavelhouse_api_ErrShape), ("gavelhouse/api.ErrKind", laid_gavelhouse_api_ErrKind), ("gavelhouse/api.ErrSum", laid_gavelhouse_api_ErrSum), ("gavelhouse/api.ErrNone", laid_gavelhouse_api_ErrNone), ("gavelhouse/api.ErrExist", laid_gavelhouse_api_ErrExist), ("gavelhouse/api.ErrFull", laid_gavelhouse_api_ErrFull), ("gavelhouse/api.ErrOff", laid_gavelhouse_api_ErrOff), ("gavelhouse/api.ErrPoor", laid_gavelhouse_api_ErrPoor), ("gavelhouse/api.ErrState", laid_gavelhouse_api_ErrState), ("gavelhouse/api.ErrOrder", laid_gavelhouse_api_ErrOrder)] }
def SessionTakesSaid : Prop := sessionTakesRow.holds Tryd.pinned (OpenSpec.ofChange sessionTakesSpec)

/-- ITS FALSE NEIGHBOUR: 'it returns false'. Refute it at one input. -/
def sessionTakesWrong : ChangeSpec := { name := "sessionTakes", fn := fun _ => fun
  | [d1, d2, d3, d4, d5] => { results := [.lit (.bool false)], args := [d1, d2, d3, d4, d5] }
  | _ => none }
def SessionTakesWrongFalsely : Prop := sessionTakesRow.holds Tryd.pinned (OpenSpec.ofChange sessionTakesWrong)

/-- 'gavelhouselaw1.WireFrames': WHATEVER THE INPUT: true; the input reads as it did. -/
def wireFramesSpec : ChangeSpec := { name := "wireFrames", fn := fun _ => fun
  | [d1, d2] => { results := [.lit (.bool true)], args := [d1, d2] }
  | _ => none }
def wireFramesRow : OpenClaim := { program := "ythngmmhoakegeaadoor", sum := "44e6091bdea8f24d5e43ae752fb3f51a5e1c855aedd7b8bd1775741c3c735afe", func := "gavelhouse/gavelhouselaw1.WireFrames", spec := "wireFrames", inPlace := ["internal/reflectlite.ValueOf", "(internal/reflectlite.Value).Type", "(internal/reflectlite.Value).IsNil", "internal/reflectlite.TypeOf", "(internal/reflectlite.Value).Elem", "(internal/reflectlite.Value).Set"], unfollowed := true, recurses := true, named := ["gavelhouse/api.ErrShape", "gavelhouse/api.ErrKind", "gavelhouse/api.ErrBound", "gavelhouse/api.ErrText", "gavelhouse/api.ErrSum", "gavelhouse/api.ErrNone", "gavelhouse/api.ErrExist", "gavelhouse/api.ErrFull", "gavelhouse/api.ErrOff", "gavelhouse/api.ErrPoor", "gavelhouse/api.ErrState", "gavelhouse/api.ErrOrder", "errors.errorType"], apart := false, laid := [("errors.errorType", laid_errors_errorType), ("gavelhouse/api.ErrText", laid_gavelhouse_api_ErrText), ("gavelhouse/api.ErrBound", laid_gavelhouse_api_ErrBound), ("gavelhouse/api.ErrShape", laid_gavelhouse_api_ErrShape), ("gavelhouse/api.ErrKind", laid_gavelhouse_api_ErrKind), ("gavelhouse/api.ErrSum", laid_gavelhouse_api_ErrSum), ("gavelhouse/api.ErrNone", laid_gavelhouse_api_ErrNone), ("gavelhouse/api.ErrExist", laid_gavelhouse_api_ErrExist), ("gavelhouse/api.ErrFull", laid_gavelhouse_api_ErrFull), ("gavelhouse/api.ErrOff", laid_gavelhouse_api_ErrOff), ("gavelhouse/api.ErrPoor", laid_gavelhouse_api_ErrPoor), ("gavelhouse/api.ErrState", laid_gavelhouse_api_ErrState), ("gavelhouse/api.ErrOrder", laid_gavelhouse_api_ErrOrder)] }
def WireFramesSaid : Prop := wireFramesRow.holds Tryd.pinned (OpenSpec.ofChange wireFramesSpec)

/-- ITS FALSE NEIGHBOUR: 'it returns false'. Refute it at one input. -/
def wireFramesWrong : ChangeSpec := { name := "wireFrames", fn := fun _ => fun
  | [d1, d2] => { results := [.lit (.bool false)], args := [d1, d2] }
  | _ => none }
def WireFramesWrongFalsely : Prop := wireFramesRow.holds Tryd.pinned (OpenSpec.ofChange wireFramesWrong)

/-- 'gavelhouselaw1.WireBursts': WHATEVER THE INPUT: true; the input reads as it did. -/
def wireBurstsSpec : ChangeSpec := { name := "wireBursts", fn := fun _ => fun
  | [d1, d2, d3] => { results := [.lit (.bool true)], args := [d1, d2, d3] }
  | _ => none }
def wireBurstsRow : OpenClaim := { program := "ythngmmhoakegeaadoor", sum := "44e6091bdea8f24d5e43ae752fb3f51a5e1c855aedd7b8bd1775741c3c735afe", func := "gavelhouse/gavelhouselaw1.WireBursts", spec := "wireBursts", inPlace := ["internal/reflectlite.ValueOf", "(internal/reflectlite.Value).Type", "(internal/reflectlite.Value).IsNil", "internal/reflectlite.TypeOf", "(internal/reflectlite.Value).Elem", "(internal/reflectlite.Value).Set"], unfollowed := true, recurses := true, named := ["gavelhouse/api.ErrShape", "gavelhouse/api.ErrKind", "gavelhouse/api.ErrBound", "gavelhouse/api.ErrText", "gavelhouse/api.ErrSum", "gavelhouse/api.ErrNone", "gavelhouse/api.ErrExist", "gavelhouse/api.ErrFull", "gavelhouse/api.ErrOff", "gavelhouse/api.ErrPoor", "gavelhouse/api.ErrState", "gavelhouse/api.ErrOrder", "errors.errorType"], apart := false, laid := [("errors.errorType", laid_errors_errorType), ("gavelhouse/api.ErrText", laid_gavelhouse_api_ErrText), ("gavelhouse/api.ErrBound", laid_gavelhouse_api_ErrBound), ("gavelhouse/api.ErrShape", laid_gavelhouse_api_ErrShape), ("gavelhouse/api.ErrKind", laid_gavelhouse_api_ErrKind), ("gavelhouse/api.ErrSum", laid_gavelhouse_api_ErrSum), ("gavelhouse/api.ErrNone", laid_gavelhouse_api_ErrNone), ("gavelhouse/api.ErrExist", laid_gavelhouse_api_ErrExist), ("gavelhouse/api.ErrFull", laid_gavelhouse_api_ErrFull), ("gavelhouse/api.ErrOff", laid_gavelhouse_api_ErrOff), ("gavelhouse/api.ErrPoor", laid_gavelhouse_api_ErrPoor), ("gavelhouse/api.ErrState", laid_gavelhouse_api_ErrState), ("gavelhouse/api.ErrOrder", laid_gavelhouse_api_ErrOrder)] }
def WireBurstsSaid : Prop := wireBurstsRow.holds Tryd.pinned (OpenSpec.ofChange wireBurstsSpec)

/-- ITS FALSE NEIGHBOUR: 'it returns false'. Refute it at one input. -/
def wireBurstsWrong : ChangeSpec := { name := "wireBursts", fn := fun _ => fun
  | [d1, d2, d3] => { results := [.lit (.bool false)], args := [d1, d2, d3] }
  | _ => none }
def WireBurstsWrongFalsely : Prop := wireBurstsRow.holds Tryd.pinned (OpenSpec.ofChange wireBurstsWrong)

/-- 'gavelhouselaw1.WireStreams': WHATEVER THE INPUT: true; the input reads as it did. -/
def wireStreamsSpec : ChangeSpec := { name := "wireStreams", fn := fun _ => fun
  | [d1, d2] => { results := [.lit (.bool true)], args := [d1, d2] }
  | _ => none }
def wireStreamsRow : OpenClaim := { program := "ythngmmhoakegeaadoor", sum := "44e6091bdea8f24d5e43ae752fb3f51a5e1c855aedd7b8bd1775741c3c735afe", func := "gavelhouse/gavelhouselaw1.WireStreams", spec := "wireStreams", inPlace := ["internal/reflectlite.ValueOf", "(internal/reflectlite.Value).Type", "(internal/reflectlite.Value).IsNil", "internal/reflectlite.TypeOf", "(internal/reflectlite.Value).Elem", "(internal/reflectlite.Value).Set"], unfollowed := true, recurses := true, named := ["gavelhouse/api.ErrShape", "gavelhouse/api.ErrKind", "gavelhouse/api.ErrBound", "gavelhouse/api.ErrText", "gavelhouse/api.ErrSum", "gavelhouse/api.ErrNone", "gavelhouse/api.ErrExist", "gavelhouse/api.ErrFull", "gavelhouse/api.ErrOff", "gavelhouse/api.ErrPoor", "gavelhouse/api.ErrState", "gavelhouse/api.ErrOrder", "errors.errorType"], apart := false, laid := [("errors.errorType", laid_errors_errorType), ("gavelhouse/api.ErrText", laid_gavelhouse_api_ErrText), ("gavelhouse/api.ErrBound", laid_gavelhouse_api_ErrBound), ("gavelhouse/api.ErrShape", laid_gavelhouse_api_ErrShape), ("gavelhouse/api.ErrKind", laid_gavelhouse_api_ErrKind), ("gavelhouse/api.ErrSum", laid_gavelhouse_api_ErrSum), ("gavelhouse/api.ErrNone", laid_gavelhouse_api_ErrNone), ("gavelhouse/api.ErrExist", laid_gavelhouse_api_ErrExist), ("gavelhouse/api.ErrFull", laid_gavelhouse_api_ErrFull), ("gavelhouse/api.ErrOff", laid_gavelhouse_api_ErrOff), ("gavelhouse/api.ErrPoor", laid_gavelhouse_api_ErrPoor), ("gavelhouse/api.ErrState", laid_gavelhouse_api_ErrState), ("gavelhouse/api.ErrOrder", laid_gavelhouse_api_ErrOrder)] }
def WireStreamsSaid : Prop := wireStreamsRow.holds Tryd.pinned (OpenSpec.ofChange wireStreamsSpec)

/-- ITS FALSE NEIGHBOUR: 'it returns false'. Refute it at one input. -/
def wireStreamsWrong : ChangeSpec := { name := "wireStreams", fn := fun _ => fun
  | [d1, d2] => { results := [.lit (.bool false)], args := [d1, d2] }
  | _ => none }
def WireStreamsWrongFalsely : Prop := wireStreamsRow.holds Tryd.pinned (OpenSpec.ofChange wireStreamsWrong)

/- THE SECOND FORM. 'bulk': how many values and letters a reading holds, each counted each time it is reached (what is shared counts as often as it is met; a slice's spare places count too). A statement '..UptoSaid' is the law's where the arguments, and the package variables that the reading takes, are together of bulk at most 1048576: NARROWER than '..Said'. Prove '..Said' where nothing that the law and all that it calls make is longer than what came in: it says more and counts as full. Else prove '..UptoSaid'. A law counts once. -/
mutual
def uptoBulk {H : Type} : DataW H → Nat
  | .lit (.string bytes) => bytes.length + 1
  | .lit _ => 1
  | .nil => 1
  | .ptr d => uptoBulk d + 1
  | .slice elems spare => uptoBulkAll elems + uptoBulkAll spare + 1
  | .agg parts => uptoBulkAll parts + 1
  | .iface _ d => uptoBulk d + 1
  | .map entries => uptoBulkEntries entries + 1
  | .held _ => 1
def uptoBulkAll {H : Type} : List (DataW H) → Nat
  | [] => 0
  | d :: r => uptoBulk d + uptoBulkAll r
def uptoBulkEntries {H : Type} : List (Lit × DataW H) → Nat
  | [] => 0
  | x :: r => uptoBulkEntry x + uptoBulkEntries r
def uptoBulkEntry {H : Type} : Lit × DataW H → Nat
  | (.string bytes, d) => bytes.length + uptoBulk d + 1
  | (_, d) => uptoBulk d + 1
 end
def uptoSmall : (H : Type) → List (DataW H) → Bool := fun _ ds => decide (uptoBulkAll ds ≤ 1048576)
def OpenSpec.upto (s : _root_.Go.ChangeSpec) : _root_.Go.OpenSpec := { _root_.Go.OpenSpec.ofChange s with cond := some uptoSmall }

/-- 'gavelhouselaw3.IntakeWaits', WHERE WHAT IT READS IS OF BULK AT MOST 1048576: true; the input reads as it did. -/
def intakeWaitsUptoRow : OpenClaim := { program := "ythngmmhoakegeaadoor", sum := "44e6091bdea8f24d5e43ae752fb3f51a5e1c855aedd7b8bd1775741c3c735afe", func := "gavelhouse/gavelhouselaw3.IntakeWaits", spec := "intakeWaits", named := ["gavelhouse/api.ErrKind", "gavelhouse/api.ErrBound", "gavelhouse/api.ErrFull"], apart := false, laid := [("gavelhouse/api.ErrBound", laid_gavelhouse_api_ErrBound), ("gavelhouse/api.ErrKind", laid_gavelhouse_api_ErrKind), ("gavelhouse/api.ErrFull", laid_gavelhouse_api_ErrFull)], narrowed := true }
def IntakeWaitsUptoSaid : Prop := intakeWaitsUptoRow.holds Tryd.pinned (OpenSpec.upto intakeWaitsSpec)

/-- 'gavelhouselaw2.BandHalts', WHERE WHAT IT READS IS OF BULK AT MOST 1048576: true; the input reads as it did. -/
def bandHaltsUptoRow : OpenClaim := { program := "ythngmmhoakegeaadoor", sum := "44e6091bdea8f24d5e43ae752fb3f51a5e1c855aedd7b8bd1775741c3c735afe", func := "gavelhouse/gavelhouselaw2.BandHalts", spec := "bandHalts", named := ["gavelhouse/api.ErrBound"], apart := false, laid := [("gavelhouse/api.ErrBound", laid_gavelhouse_api_ErrBound)], narrowed := true }
def BandHaltsUptoSaid : Prop := bandHaltsUptoRow.holds Tryd.pinned (OpenSpec.upto bandHaltsSpec)

/-- 'gavelhouselaw3.IntakeKeeps', WHERE WHAT IT READS IS OF BULK AT MOST 1048576: true; the input reads as it did. -/
def intakeKeepsUptoRow : OpenClaim := { program := "ythngmmhoakegeaadoor", sum := "44e6091bdea8f24d5e43ae752fb3f51a5e1c855aedd7b8bd1775741c3c735afe", func := "gavelhouse/gavelhouselaw3.IntakeKeeps", spec := "intakeKeeps", named := ["gavelhouse/api.ErrKind", "gavelhouse/api.ErrBound", "gavelhouse/api.ErrFull"], apart := false, laid := [("gavelhouse/api.ErrBound", laid_gavelhouse_api_ErrBound), ("gavelhouse/api.ErrKind", laid_gavelhouse_api_ErrKind), ("gavelhouse/api.ErrFull", laid_gavelhouse_api_ErrFull)], narrowed := true }
def IntakeKeepsUptoSaid : Prop := intakeKeepsUptoRow.holds Tryd.pinned (OpenSpec.upto intakeKeepsSpec)

/-- 'gavelhouselaw1.WireApart', WHERE WHAT IT READS IS OF BULK AT MOST 1048576: true; the input reads as it did. -/
def wireApartUptoRow : OpenClaim := { program := "ythngmmhoakegeaadoor", sum := "44e6091bdea8f24d5e43ae752fb3f51a5e1c855aedd7b8bd1775741c3c735afe", func := "gavelhouse/gavelhouselaw1.WireApart", spec := "wireApart", named := ["gavelhouse/api.ErrShape", "gavelhouse/api.ErrKind", "gavelhouse/api.ErrBound"], apart := false, laid := [("gavelhouse/api.ErrBound", laid_gavelhouse_api_ErrBound), ("gavelhouse/api.ErrShape", laid_gavelhouse_api_ErrShape), ("gavelhouse/api.ErrKind", laid_gavelhouse_api_ErrKind)], narrowed := true }
def WireApartUptoSaid : Prop := wireApartUptoRow.holds Tryd.pinned (OpenSpec.upto wireApartSpec)

/-- 'gavelhouselaw2.SessionRises', WHERE WHAT IT READS IS OF BULK AT MOST 1048576: true; the input reads as it did. -/
def sessionRisesUptoRow : OpenClaim := { program := "ythngmmhoakegeaadoor", sum := "44e6091bdea8f24d5e43ae752fb3f51a5e1c855aedd7b8bd1775741c3c735afe", func := "gavelhouse/gavelhouselaw2.SessionRises", spec := "sessionRises", named := ["gavelhouse/api.ErrState", "gavelhouse/api.ErrOrder", "gavelhouse/api.ErrShape", "gavelhouse/api.ErrKind", "gavelhouse/api.ErrBound"], apart := false, laid := [("gavelhouse/api.ErrBound", laid_gavelhouse_api_ErrBound), ("gavelhouse/api.ErrShape", laid_gavelhouse_api_ErrShape), ("gavelhouse/api.ErrKind", laid_gavelhouse_api_ErrKind), ("gavelhouse/api.ErrState", laid_gavelhouse_api_ErrState), ("gavelhouse/api.ErrOrder", laid_gavelhouse_api_ErrOrder)], narrowed := true }
def SessionRisesUptoSaid : Prop := sessionRisesUptoRow.holds Tryd.pinned (OpenSpec.upto sessionRisesSpec)

/-- 'gavelhouselaw1.Names', WHERE WHAT IT READS IS OF BULK AT MOST 1048576: true; the input reads as it did. -/
def namesUptoRow : OpenClaim := { program := "ythngmmhoakegeaadoor", sum := "44e6091bdea8f24d5e43ae752fb3f51a5e1c855aedd7b8bd1775741c3c735afe", func := "gavelhouse/gavelhouselaw1.Names", spec := "names", inPlace := ["internal/reflectlite.ValueOf", "(internal/reflectlite.Value).Type", "(internal/reflectlite.Value).IsNil", "internal/reflectlite.TypeOf", "(internal/reflectlite.Value).Elem", "(internal/reflectlite.Value).Set"], unfollowed := true, recurses := true, named := ["gavelhouse/api.ErrText", "gavelhouse/api.ErrBound", "gavelhouse/api.ErrShape", "gavelhouse/api.ErrKind", "gavelhouse/api.ErrSum", "gavelhouse/api.ErrNone", "gavelhouse/api.ErrExist", "gavelhouse/api.ErrFull", "gavelhouse/api.ErrOff", "gavelhouse/api.ErrPoor", "gavelhouse/api.ErrState", "gavelhouse/api.ErrOrder", "errors.errorType"], apart := false, laid := [("errors.errorType", laid_errors_errorType), ("gavelhouse/api.ErrText", laid_gavelhouse_api_ErrText), ("gavelhouse/api.ErrBound", laid_gavelhouse_api_ErrBound), ("gavelhouse/api.ErrShape", laid_gavelhouse_api_ErrShape), ("gavelhouse/api.ErrKind", laid_gavelhouse_api_ErrKind), ("gavelhouse/api.ErrSum", laid_gavelhouse_api_ErrSum), ("gavelhouse/api.ErrNone", laid_gavelhouse_api_ErrNone), ("gavelhouse/api.ErrExist", laid_gavelhouse_api_ErrExist), ("gavelhouse/api.ErrFull", laid_gavelhouse_api_ErrFull), ("gavelhouse/api.ErrOff", laid_gavelhouse_api_ErrOff), ("gavelhouse/api.ErrPoor", laid_gavelhouse_api_ErrPoor), ("gavelhouse/api.ErrState", laid_gavelhouse_api_ErrState), ("gavelhouse/api.ErrOrder", laid_gavelhouse_api_ErrOrder)], narrowed := true }
def NamesUptoSaid : Prop := namesUptoRow.holds Tryd.pinned (OpenSpec.upto namesSpec)

/-- 'gavelhouselaw2.BandNext', WHERE WHAT IT READS IS OF BULK AT MOST 1048576: true; the input reads as it did. -/
def bandNextUptoRow : OpenClaim := { program := "ythngmmhoakegeaadoor", sum := "44e6091bdea8f24d5e43ae752fb3f51a5e1c855aedd7b8bd1775741c3c735afe", func := "gavelhouse/gavelhouselaw2.BandNext", spec := "bandNext", inPlace := ["internal/reflectlite.ValueOf", "(internal/reflectlite.Value).Type", "(internal/reflectlite.Value).IsNil", "internal/reflectlite.TypeOf", "(internal/reflectlite.Value).Elem", "(internal/reflectlite.Value).Set"], unfollowed := true, recurses := true, named := ["gavelhouse/api.ErrBound", "gavelhouse/api.ErrText", "gavelhouse/api.ErrShape", "gavelhouse/api.ErrKind", "gavelhouse/api.ErrSum", "gavelhouse/api.ErrNone", "gavelhouse/api.ErrExist", "gavelhouse/api.ErrFull", "gavelhouse/api.ErrOff", "gavelhouse/api.ErrPoor", "gavelhouse/api.ErrState", "gavelhouse/api.ErrOrder", "errors.errorType"], apart := false, laid := [("errors.errorType", laid_errors_errorType), ("gavelhouse/api.ErrText", laid_gavelhouse_api_ErrText), ("gavelhouse/api.ErrBound", laid_gavelhouse_api_ErrBound), ("gavelhouse/api.ErrShape", laid_gavelhouse_api_ErrShape), ("gavelhouse/api.ErrKind", laid_gavelhouse_api_ErrKind), ("gavelhouse/api.ErrSum", laid_gavelhouse_api_ErrSum), ("gavelhouse/api.ErrNone", laid_gavelhouse_api_ErrNone), ("gavelhouse/api.ErrExist", laid_gavelhouse_api_ErrExist), ("gavelhouse/api.ErrFull", laid_gavelhouse_api_ErrFull), ("gavelhouse/api.ErrOff", laid_gavelhouse_api_ErrOff), ("gavelhouse/api.ErrPoor", laid_gavelhouse_api_ErrPoor), ("gavelhouse/api.ErrState", laid_gavelhouse_api_ErrState), ("gavelhouse/api.ErrOrder", laid_gavelhouse_api_ErrOrder)], narrowed := true }
def BandNextUptoSaid : Prop := bandNextUptoRow.holds Tryd.pinned (OpenSpec.upto bandNextSpec)

/-- 'gavelhouselaw3.IntakeActs', WHERE WHAT IT READS IS OF BULK AT MOST 1048576: true; the input reads as it did. -/
def intakeActsUptoRow : OpenClaim := { program := "ythngmmhoakegeaadoor", sum := "44e6091bdea8f24d5e43ae752fb3f51a5e1c855aedd7b8bd1775741c3c735afe", func := "gavelhouse/gavelhouselaw3.IntakeActs", spec := "intakeActs", inPlace := ["internal/reflectlite.ValueOf", "(internal/reflectlite.Value).Type", "(internal/reflectlite.Value).IsNil", "internal/reflectlite.TypeOf", "(internal/reflectlite.Value).Elem", "(internal/reflectlite.Value).Set"], unfollowed := true, recurses := true, named := ["gavelhouse/api.ErrKind", "gavelhouse/api.ErrBound", "gavelhouse/api.ErrFull", "gavelhouse/api.ErrText", "gavelhouse/api.ErrShape", "gavelhouse/api.ErrSum", "gavelhouse/api.ErrNone", "gavelhouse/api.ErrExist", "gavelhouse/api.ErrOff", "gavelhouse/api.ErrPoor", "gavelhouse/api.ErrState", "gavelhouse/api.ErrOrder", "errors.errorType"], apart := false, laid := [("errors.errorType", laid_errors_errorType), ("gavelhouse/api.ErrText", laid_gavelhouse_api_ErrText), ("gavelhouse/api.ErrBound", laid_gavelhouse_api_ErrBound), ("gavelhouse/api.ErrShape", laid_gavelhouse_api_ErrShape), ("gavelhouse/api.ErrKind", laid_gavelhouse_api_ErrKind), ("gavelhouse/api.ErrSum", laid_gavelhouse_api_ErrSum), ("gavelhouse/api.ErrNone", laid_gavelhouse_api_ErrNone), ("gavelhouse/api.ErrExist", laid_gavelhouse_api_ErrExist), ("gavelhouse/api.ErrFull", laid_gavelhouse_api_ErrFull), ("gavelhouse/api.ErrOff", laid_gavelhouse_api_ErrOff), ("gavelhouse/api.ErrPoor", laid_gavelhouse_api_ErrPoor), ("gavelhouse/api.ErrState", laid_gavelhouse_api_ErrState), ("gavelhouse/api.ErrOrder", laid_gavelhouse_api_ErrOrder)], narrowed := true }
def IntakeActsUptoSaid : Prop := intakeActsUptoRow.holds Tryd.pinned (OpenSpec.upto intakeActsSpec)

/-- 'gavelhouselaw2.SessionTakes', WHERE WHAT IT READS IS OF BULK AT MOST 1048576: true; the input reads as it did. -/
def sessionTakesUptoRow : OpenClaim := { program := "ythngmmhoakegeaadoor", sum := "44e6091bdea8f24d5e43ae752fb3f51a5e1c855aedd7b8bd1775741c3c735afe", func := "gavelhouse/gavelhouselaw2.SessionTakes", spec := "sessionTakes", inPlace := ["internal/reflectlite.ValueOf", "(internal/reflectlite.Value).Type", "(internal/reflectlite.Value).IsNil", "internal/reflectlite.TypeOf", "(internal/reflectlite.Value).Elem", "(internal/reflectlite.Value).Set"], unfollowed := true, recurses := true, named := ["gavelhouse/api.ErrState", "gavelhouse/api.ErrOrder", "gavelhouse/api.ErrShape", "gavelhouse/api.ErrKind", "gavelhouse/api.ErrBound", "gavelhouse/api.ErrText", "gavelhouse/api.ErrSum", "gavelhouse/api.ErrNone", "gavelhouse/api.ErrExist", "gavelhouse/api.ErrFull", "gavelhouse/api.ErrOff", "gavelhouse/api.ErrPoor", "errors.errorType"], apart := false, laid := [("errors.errorType", laid_errors_errorType), ("gavelhouse/api.ErrText", laid_gavelhouse_api_ErrText), ("gavelhouse/api.ErrBound", laid_gavelhouse_api_ErrBound), ("gavelhouse/api.ErrShape", laid_gavelhouse_api_ErrShape), ("gavelhouse/api.ErrKind", laid_gavelhouse_api_ErrKind), ("gavelhouse/api.ErrSum", laid_gavelhouse_api_ErrSum), ("gavelhouse/api.ErrNone", laid_gavelhouse_api_ErrNone), ("gavelhouse/api.ErrExist", laid_gavelhouse_api_ErrExist), ("gavelhouse/api.ErrFull", laid_gavelhouse_api_ErrFull), ("gavelhouse/api.ErrOff", laid_gavelhouse_api_ErrOff), ("gavelhouse/api.ErrPoor", laid_gavelhouse_api_ErrPoor), ("gavelhouse/api.ErrState", laid_gavelhouse_api_ErrState), ("gavelhouse/api.ErrOrder", laid_gavelhouse_api_ErrOrder)], narrowed := true }
def SessionTakesUptoSaid : Prop := sessionTakesUptoRow.holds Tryd.pinned (OpenSpec.upto sessionTakesSpec)

/-- 'gavelhouselaw1.WireFrames', WHERE WHAT IT READS IS OF BULK AT MOST 1048576: true; the input reads as it did. -/
def wireFramesUptoRow : OpenClaim := { program := "ythngmmhoakegeaadoor", sum := "44e6091bdea8f24d5e43ae752fb3f51a5e1c855aedd7b8bd1775741c3c735afe", func := "gavelhouse/gavelhouselaw1.WireFrames", spec := "wireFrames", inPlace := ["internal/reflectlite.ValueOf", "(internal/reflectlite.Value).Type", "(internal/reflectlite.Value).IsNil", "internal/reflectlite.TypeOf", "(internal/reflectlite.Value).Elem", "(internal/reflectlite.Value).Set"], unfollowed := true, recurses := true, named := ["gavelhouse/api.ErrShape", "gavelhouse/api.ErrKind", "gavelhouse/api.ErrBound", "gavelhouse/api.ErrText", "gavelhouse/api.ErrSum", "gavelhouse/api.ErrNone", "gavelhouse/api.ErrExist", "gavelhouse/api.ErrFull", "gavelhouse/api.ErrOff", "gavelhouse/api.ErrPoor", "gavelhouse/api.ErrState", "gavelhouse/api.ErrOrder", "errors.errorType"], apart := false, laid := [("errors.errorType", laid_errors_errorType), ("gavelhouse/api.ErrText", laid_gavelhouse_api_ErrText), ("gavelhouse/api.ErrBound", laid_gavelhouse_api_ErrBound), ("gavelhouse/api.ErrShape", laid_gavelhouse_api_ErrShape), ("gavelhouse/api.ErrKind", laid_gavelhouse_api_ErrKind), ("gavelhouse/api.ErrSum", laid_gavelhouse_api_ErrSum), ("gavelhouse/api.ErrNone", laid_gavelhouse_api_ErrNone), ("gavelhouse/api.ErrExist", laid_gavelhouse_api_ErrExist), ("gavelhouse/api.ErrFull", laid_gavelhouse_api_ErrFull), ("gavelhouse/api.ErrOff", laid_gavelhouse_api_ErrOff), ("gavelhouse/api.ErrPoor", laid_gavelhouse_api_ErrPoor), ("gavelhouse/api.ErrState", laid_gavelhouse_api_ErrState), ("gavelhouse/api.ErrOrder", laid_gavelhouse_api_ErrOrder)], narrowed := true }
def WireFramesUptoSaid : Prop := wireFramesUptoRow.holds Tryd.pinned (OpenSpec.upto wireFramesSpec)

/-- 'gavelhouselaw1.WireBursts', WHERE WHAT IT READS IS OF BULK AT MOST 1048576: true; the input reads as it did. -/
def wireBurstsUptoRow : OpenClaim := { program := "ythngmmhoakegeaadoor", sum := "44e6091bdea8f24d5e43ae752fb3f51a5e1c855aedd7b8bd1775741c3c735afe", func := "gavelhouse/gavelhouselaw1.WireBursts", spec := "wireBursts", inPlace := ["internal/reflectlite.ValueOf", "(internal/reflectlite.Value).Type", "(internal/reflectlite.Value).IsNil", "internal/reflectlite.TypeOf", "(internal/reflectlite.Value).Elem", "(internal/reflectlite.Value).Set"], unfollowed := true, recurses := true, named := ["gavelhouse/api.ErrShape", "gavelhouse/api.ErrKind", "gavelhouse/api.ErrBound", "gavelhouse/api.ErrText", "gavelhouse/api.ErrSum", "gavelhouse/api.ErrNone", "gavelhouse/api.ErrExist", "gavelhouse/api.ErrFull", "gavelhouse/api.ErrOff", "gavelhouse/api.ErrPoor", "gavelhouse/api.ErrState", "gavelhouse/api.ErrOrder", "errors.errorType"], apart := false, laid := [("errors.errorType", laid_errors_errorType), ("gavelhouse/api.ErrText", laid_gavelhouse_api_ErrText), ("gavelhouse/api.ErrBound", laid_gavelhouse_api_ErrBound), ("gavelhouse/api.ErrShape", laid_gavelhouse_api_ErrShape), ("gavelhouse/api.ErrKind", laid_gavelhouse_api_ErrKind), ("gavelhouse/api.ErrSum", laid_gavelhouse_api_ErrSum), ("gavelhouse/api.ErrNone", laid_gavelhouse_api_ErrNone), ("gavelhouse/api.ErrExist", laid_gavelhouse_api_ErrExist), ("gavelhouse/api.ErrFull", laid_gavelhouse_api_ErrFull), ("gavelhouse/api.ErrOff", laid_gavelhouse_api_ErrOff), ("gavelhouse/api.ErrPoor", laid_gavelhouse_api_ErrPoor), ("gavelhouse/api.ErrState", laid_gavelhouse_api_ErrState), ("gavelhouse/api.ErrOrder", laid_gavelhouse_api_ErrOrder)], narrowed := true }
def WireBurstsUptoSaid : Prop := wireBurstsUptoRow.holds Tryd.pinned (OpenSpec.upto wireBurstsSpec)

/-- 'gavelhouselaw1.WireStreams', WHERE WHAT IT READS IS OF BULK AT MOST 1048576: true; the input reads as it did. -/
def wireStreamsUptoRow : OpenClaim := { program := "ythngmmhoakegeaadoor", sum := "44e6091bdea8f24d5e43ae752fb3f51a5e1c855aedd7b8bd1775741c3c735afe", func := "gavelhouse/gavelhouselaw1.WireStreams", spec := "wireStreams", inPlace := ["internal/reflectlite.ValueOf", "(internal/reflectlite.Value).Type", "(internal/reflectlite.Value).IsNil", "internal/reflectlite.TypeOf", "(internal/reflectlite.Value).Elem", "(internal/reflectlite.Value).Set"], unfollowed := true, recurses := true, named := ["gavelhouse/api.ErrShape", "gavelhouse/api.ErrKind", "gavelhouse/api.ErrBound", "gavelhouse/api.ErrText", "gavelhouse/api.ErrSum", "gavelhouse/api.ErrNone", "gavelhouse/api.ErrExist", "gavelhouse/api.ErrFull", "gavelhouse/api.ErrOff", "gavelhouse/api.ErrPoor", "gavelhouse/api.ErrState", "gavelhouse/api.ErrOrder", "errors.errorType"], apart := false, laid := [("errors.errorType", laid_errors_errorType), ("gavelhouse/api.ErrText", laid_gavelhouse_api_ErrText), ("gavelhouse/api.ErrBound", laid_gavelhouse_api_ErrBound), ("gavelhouse/api.ErrShape", laid_gavelhouse_api_ErrShape), ("gavelhouse/api.ErrKind", laid_gavelhouse_api_ErrKind), ("gavelhouse/api.ErrSum", laid_gavelhouse_api_ErrSum), ("gavelhouse/api.ErrNone", laid_gavelhouse_api_ErrNone), ("gavelhouse/api.ErrExist", laid_gavelhouse_api_ErrExist), ("gavelhouse/api.ErrFull", laid_gavelhouse_api_ErrFull), ("gavelhouse/api.ErrOff", laid_gavelhouse_api_ErrOff), ("gavelhouse/api.ErrPoor", laid_gavelhouse_api_ErrPoor), ("gavelhouse/api.ErrState", laid_gavelhouse_api_ErrState), ("gavelhouse/api.ErrOrder", laid_gavelhouse_api_ErrOrder)], narrowed := true }
def WireStreamsUptoSaid : Prop := wireStreamsUptoRow.holds Tryd.pinned (OpenSpec.upto wireStreamsSpec)

end Rows
end Go.Proofs.YthngmmhoakegeaaDoor
