/-
  NARROWER THAN 'FOR EVERY INPUT', by the rows' own cells (each row's printed sentence says how): CurveAdds: laid · ClearShifts: laid · ClearBest: laid · ClearPrices: laid · CurveFalls: laid · RationFair: laid · RationSame: laid · RationStreams: laid · CurveTells: laid · RationFills: laid.
  DERIVED. THE GIVEN ROWS OF THIS SEAT. 10 by the template 'for every input the law returns true; each argument reads behind the call as it read before'; 0 by the template 'total and deterministic' (their statements: YtjkaeiioofknoaaDoorTotals.lean).
  GIVEN WITH THE SEED: the statements are not yours to turn. If you find one false, say at which input.
  Laid BY PROGRAM, IN A SANDBOX (cutbox-rows.mjs): the forced cells as the released guide's own fill.sh prints them over the translation fa0f145e243bf5fe… (all of the seat's roots in one cut). By AI agents, Wed Nov 11 2026. No macro, syntax, notation, axiom, sorry.
-/
import Derived.Test.YtjkaeiioofknoaaDoorChecked
import GoSem.Claim
import GoSem.ClaimJoined
import GoSem.ClaimMapViews
import Derived.JoinedTies
import Derived.KernelRfl
namespace Go.Proofs.YtjkaeiioofknoaaDoor
/- THE CELL 'sum', in the pinned program and in every row, IS THE sha256 OF THE DUMP (.gsa) THAT YtjkaeiioofknoaaDoorProg.lean LOADS. Nothing in Lean hashes anything: it is a label: what it is worth is what the hold of that sum in a sandbox is worth. -/
noncomputable def Tryd.pinned : Pinned := { name := "ytjkaeiioofknoaadoor", sum := "fa0f145e243bf5fe2c9514ed6c30fc2cd79290f131c30299957fff13f8fbc1d2", checked := Tryd.checked }
namespace Rows
def none {H : Type} : Left H := { results := [], args := [] }

/- WHAT THE LISTED PACKAGE-LEVEL VARIABLES READ AS WHEN THE CALL BEGINS. Each datum BY PROGRAM (the guide's laid-datum.mjs) off the statement by which the dump's own 'gosem.cut.vars' lays the variable. In a bare row this is a premise. The card (YtjkaeiioofknoaaDoorCards.lean) ties it to the program's text. -/
def laid_gavelhouse_api_ErrBound {H : Type} : DataW H := .iface "*errors.errorString" (.ptr (.agg [.lit (.string [103, 97, 118, 101, 108, 104, 111, 117, 115, 101, 58, 32, 98, 111, 117, 110, 100])]))
def laid_gavelhouse_api_ErrExist {H : Type} : DataW H := .iface "*errors.errorString" (.ptr (.agg [.lit (.string [103, 97, 118, 101, 108, 104, 111, 117, 115, 101, 58, 32, 101, 120, 105, 115, 116])]))
def laid_gavelhouse_api_ErrFull {H : Type} : DataW H := .iface "*errors.errorString" (.ptr (.agg [.lit (.string [103, 97, 118, 101, 108, 104, 111, 117, 115, 101, 58, 32, 102, 117, 108, 108])]))
def laid_errors_errorType {H : Type} : DataW H := .iface "internal/reflectlite.rtype" (.agg [.ptr (.lit (.string [101, 114, 114, 111, 114]))])
def laid_gavelhouse_api_ErrText {H : Type} : DataW H := .iface "*errors.errorString" (.ptr (.agg [.lit (.string [103, 97, 118, 101, 108, 104, 111, 117, 115, 101, 58, 32, 116, 101, 120, 116])]))
def laid_gavelhouse_api_ErrShape {H : Type} : DataW H := .iface "*errors.errorString" (.ptr (.agg [.lit (.string [103, 97, 118, 101, 108, 104, 111, 117, 115, 101, 58, 32, 115, 104, 97, 112, 101])]))
def laid_gavelhouse_api_ErrKind {H : Type} : DataW H := .iface "*errors.errorString" (.ptr (.agg [.lit (.string [103, 97, 118, 101, 108, 104, 111, 117, 115, 101, 58, 32, 107, 105, 110, 100])]))
def laid_gavelhouse_api_ErrSum {H : Type} : DataW H := .iface "*errors.errorString" (.ptr (.agg [.lit (.string [103, 97, 118, 101, 108, 104, 111, 117, 115, 101, 58, 32, 115, 117, 109])]))
def laid_gavelhouse_api_ErrNone {H : Type} : DataW H := .iface "*errors.errorString" (.ptr (.agg [.lit (.string [103, 97, 118, 101, 108, 104, 111, 117, 115, 101, 58, 32, 110, 111, 110, 101])]))
def laid_gavelhouse_api_ErrOff {H : Type} : DataW H := .iface "*errors.errorString" (.ptr (.agg [.lit (.string [103, 97, 118, 101, 108, 104, 111, 117, 115, 101, 58, 32, 111, 102, 102])]))
def laid_gavelhouse_api_ErrPoor {H : Type} : DataW H := .iface "*errors.errorString" (.ptr (.agg [.lit (.string [103, 97, 118, 101, 108, 104, 111, 117, 115, 101, 58, 32, 112, 111, 111, 114])]))
def laid_gavelhouse_api_ErrState {H : Type} : DataW H := .iface "*errors.errorString" (.ptr (.agg [.lit (.string [103, 97, 118, 101, 108, 104, 111, 117, 115, 101, 58, 32, 115, 116, 97, 116, 101])]))
def laid_gavelhouse_api_ErrOrder {H : Type} : DataW H := .iface "*errors.errorString" (.ptr (.agg [.lit (.string [103, 97, 118, 101, 108, 104, 111, 117, 115, 101, 58, 32, 111, 114, 100, 101, 114])]))

/-- 'gavelhouselaw1.CurveAdds': WHATEVER THE INPUT: true; the input reads as it did. -/
def curveAddsSpec : ChangeSpec := { name := "curveAdds", fn := fun _ => fun
  | [d1, d2, d3] => { results := [.lit (.bool true)], args := [d1, d2, d3] }
  | _ => none }
def curveAddsRow : OpenClaim := { program := "ytjkaeiioofknoaadoor", sum := "fa0f145e243bf5fe2c9514ed6c30fc2cd79290f131c30299957fff13f8fbc1d2", func := "gavelhouse/gavelhouselaw1.CurveAdds", spec := "curveAdds", unfollowed := true, recurses := true, named := ["gavelhouse/api.ErrFull", "gavelhouse/api.ErrExist", "gavelhouse/api.ErrBound"], apart := false, laid := [("gavelhouse/api.ErrBound", laid_gavelhouse_api_ErrBound), ("gavelhouse/api.ErrExist", laid_gavelhouse_api_ErrExist), ("gavelhouse/api.ErrFull", laid_gavelhouse_api_ErrFull)] }
def CurveAddsSaid : Prop := curveAddsRow.holds Tryd.pinned (OpenSpec.ofChange curveAddsSpec)

/-- ITS FALSE NEIGHBOUR: 'it returns false'. Refute it at one input. -/
def curveAddsWrong : ChangeSpec := { name := "curveAdds", fn := fun _ => fun
  | [d1, d2, d3] => { results := [.lit (.bool false)], args := [d1, d2, d3] }
  | _ => none }
def CurveAddsWrongFalsely : Prop := curveAddsRow.holds Tryd.pinned (OpenSpec.ofChange curveAddsWrong)

/-- 'gavelhouselaw1.ClearShifts': WHATEVER THE INPUT: true; the input reads as it did. -/
def clearShiftsSpec : ChangeSpec := { name := "clearShifts", fn := fun _ => fun
  | [d1, d2, d3] => { results := [.lit (.bool true)], args := [d1, d2, d3] }
  | _ => none }
def clearShiftsRow : OpenClaim := { program := "ytjkaeiioofknoaadoor", sum := "fa0f145e243bf5fe2c9514ed6c30fc2cd79290f131c30299957fff13f8fbc1d2", func := "gavelhouse/gavelhouselaw1.ClearShifts", spec := "clearShifts", unfollowed := true, recurses := true, named := ["gavelhouse/api.ErrBound", "gavelhouse/api.ErrFull", "gavelhouse/api.ErrExist"], apart := false, laid := [("gavelhouse/api.ErrBound", laid_gavelhouse_api_ErrBound), ("gavelhouse/api.ErrExist", laid_gavelhouse_api_ErrExist), ("gavelhouse/api.ErrFull", laid_gavelhouse_api_ErrFull)] }
def ClearShiftsSaid : Prop := clearShiftsRow.holds Tryd.pinned (OpenSpec.ofChange clearShiftsSpec)

/-- ITS FALSE NEIGHBOUR: 'it returns false'. Refute it at one input. -/
def clearShiftsWrong : ChangeSpec := { name := "clearShifts", fn := fun _ => fun
  | [d1, d2, d3] => { results := [.lit (.bool false)], args := [d1, d2, d3] }
  | _ => none }
def ClearShiftsWrongFalsely : Prop := clearShiftsRow.holds Tryd.pinned (OpenSpec.ofChange clearShiftsWrong)

/-- 'gavelhouselaw1.ClearBest': WHATEVER THE INPUT: true; the input reads as it did. -/
def clearBestSpec : ChangeSpec := { name := "clearBest", fn := fun _ => fun
  | [d1, d2, d3] => { results := [.lit (.bool true)], args := [d1, d2, d3] }
  | _ => none }
def clearBestRow : OpenClaim := { program := "ytjkaeiioofknoaadoor", sum := "fa0f145e243bf5fe2c9514ed6c30fc2cd79290f131c30299957fff13f8fbc1d2", func := "gavelhouse/gavelhouselaw1.ClearBest", spec := "clearBest", unfollowed := true, recurses := true, named := ["gavelhouse/api.ErrBound", "gavelhouse/api.ErrFull", "gavelhouse/api.ErrExist"], apart := false, laid := [("gavelhouse/api.ErrBound", laid_gavelhouse_api_ErrBound), ("gavelhouse/api.ErrExist", laid_gavelhouse_api_ErrExist), ("gavelhouse/api.ErrFull", laid_gavelhouse_api_ErrFull)] }
def ClearBestSaid : Prop := clearBestRow.holds Tryd.pinned (OpenSpec.ofChange clearBestSpec)

/-- ITS FALSE NEIGHBOUR: 'it returns false'. Refute it at one input. -/
def clearBestWrong : ChangeSpec := { name := "clearBest", fn := fun _ => fun
  | [d1, d2, d3] => { results := [.lit (.bool false)], args := [d1, d2, d3] }
  | _ => none }
def ClearBestWrongFalsely : Prop := clearBestRow.holds Tryd.pinned (OpenSpec.ofChange clearBestWrong)

/-- 'gavelhouselaw1.ClearPrices': WHATEVER THE INPUT: true; the input reads as it did. -/
def clearPricesSpec : ChangeSpec := { name := "clearPrices", fn := fun _ => fun
  | [d1, d2, d3, d4] => { results := [.lit (.bool true)], args := [d1, d2, d3, d4] }
  | _ => none }
def clearPricesRow : OpenClaim := { program := "ytjkaeiioofknoaadoor", sum := "fa0f145e243bf5fe2c9514ed6c30fc2cd79290f131c30299957fff13f8fbc1d2", func := "gavelhouse/gavelhouselaw1.ClearPrices", spec := "clearPrices", inPlace := ["internal/reflectlite.ValueOf", "(internal/reflectlite.Value).Type", "(internal/reflectlite.Value).IsNil", "internal/reflectlite.TypeOf", "(internal/reflectlite.Value).Elem", "(internal/reflectlite.Value).Set"], unfollowed := true, recurses := true, named := ["gavelhouse/api.ErrBound", "gavelhouse/api.ErrFull", "gavelhouse/api.ErrExist", "gavelhouse/api.ErrText", "gavelhouse/api.ErrShape", "gavelhouse/api.ErrKind", "gavelhouse/api.ErrSum", "gavelhouse/api.ErrNone", "gavelhouse/api.ErrOff", "gavelhouse/api.ErrPoor", "gavelhouse/api.ErrState", "gavelhouse/api.ErrOrder", "errors.errorType"], apart := false, laid := [("errors.errorType", laid_errors_errorType), ("gavelhouse/api.ErrText", laid_gavelhouse_api_ErrText), ("gavelhouse/api.ErrBound", laid_gavelhouse_api_ErrBound), ("gavelhouse/api.ErrShape", laid_gavelhouse_api_ErrShape), ("gavelhouse/api.ErrKind", laid_gavelhouse_api_ErrKind), ("gavelhouse/api.ErrSum", laid_gavelhouse_api_ErrSum), ("gavelhouse/api.ErrNone", laid_gavelhouse_api_ErrNone), ("gavelhouse/api.ErrExist", laid_gavelhouse_api_ErrExist), ("gavelhouse/api.ErrFull", laid_gavelhouse_api_ErrFull), ("gavelhouse/api.ErrOff", laid_gavelhouse_api_ErrOff), ("gavelhouse/api.ErrPoor", laid_gavelhouse_api_ErrPoor), ("gavelhouse/api.ErrState", laid_gavelhouse_api_ErrState), ("gavelhouse/api.ErrOrder", laid_gavelhouse_api_ErrOrder)] }
def ClearPricesSaid : Prop := clearPricesRow.holds Tryd.pinned (OpenSpec.ofChange clearPricesSpec)

/-- ITS FALSE NEIGHBOUR: 'it returns false'. Refute it at one input. -/
def clearPricesWrong : ChangeSpec := { name := "clearPrices", fn := fun _ => fun
  | [d1, d2, d3, d4] => { results := [.lit (.bool false)], args := [d1, d2, d3, d4] }
  | _ => none }
def ClearPricesWrongFalsely : Prop := clearPricesRow.holds Tryd.pinned (OpenSpec.ofChange clearPricesWrong)

/-- 'gavelhouselaw1.CurveFalls': WHATEVER THE INPUT: true; the input reads as it did. -/
def curveFallsSpec : ChangeSpec := { name := "curveFalls", fn := fun _ => fun
  | [d1, d2, d3] => { results := [.lit (.bool true)], args := [d1, d2, d3] }
  | _ => none }
def curveFallsRow : OpenClaim := { program := "ytjkaeiioofknoaadoor", sum := "fa0f145e243bf5fe2c9514ed6c30fc2cd79290f131c30299957fff13f8fbc1d2", func := "gavelhouse/gavelhouselaw1.CurveFalls", spec := "curveFalls", unfollowed := true, recurses := true, named := ["gavelhouse/api.ErrFull", "gavelhouse/api.ErrExist", "gavelhouse/api.ErrBound"], apart := false, laid := [("gavelhouse/api.ErrBound", laid_gavelhouse_api_ErrBound), ("gavelhouse/api.ErrExist", laid_gavelhouse_api_ErrExist), ("gavelhouse/api.ErrFull", laid_gavelhouse_api_ErrFull)] }
def CurveFallsSaid : Prop := curveFallsRow.holds Tryd.pinned (OpenSpec.ofChange curveFallsSpec)

/-- ITS FALSE NEIGHBOUR: 'it returns false'. Refute it at one input. -/
def curveFallsWrong : ChangeSpec := { name := "curveFalls", fn := fun _ => fun
  | [d1, d2, d3] => { results := [.lit (.bool false)], args := [d1, d2, d3] }
  | _ => none }
def CurveFallsWrongFalsely : Prop := curveFallsRow.holds Tryd.pinned (OpenSpec.ofChange curveFallsWrong)

/-- 'gavelhouselaw1.RationFair': WHATEVER THE INPUT: true; the input reads as it did. -/
def rationFairSpec : ChangeSpec := { name := "rationFair", fn := fun _ => fun
  | [d1, d2, d3, d4] => { results := [.lit (.bool true)], args := [d1, d2, d3, d4] }
  | _ => none }
def rationFairRow : OpenClaim := { program := "ytjkaeiioofknoaadoor", sum := "fa0f145e243bf5fe2c9514ed6c30fc2cd79290f131c30299957fff13f8fbc1d2", func := "gavelhouse/gavelhouselaw1.RationFair", spec := "rationFair", unfollowed := true, recurses := true, named := ["gavelhouse/api.ErrBound", "gavelhouse/api.ErrShape", "gavelhouse/api.ErrFull", "gavelhouse/api.ErrExist"], apart := false, laid := [("gavelhouse/api.ErrBound", laid_gavelhouse_api_ErrBound), ("gavelhouse/api.ErrShape", laid_gavelhouse_api_ErrShape), ("gavelhouse/api.ErrExist", laid_gavelhouse_api_ErrExist), ("gavelhouse/api.ErrFull", laid_gavelhouse_api_ErrFull)] }
def RationFairSaid : Prop := rationFairRow.holds Tryd.pinned (OpenSpec.ofChange rationFairSpec)

/-- ITS FALSE NEIGHBOUR: 'it returns false'. Refute it at one input. -/
def rationFairWrong : ChangeSpec := { name := "rationFair", fn := fun _ => fun
  | [d1, d2, d3, d4] => { results := [.lit (.bool false)], args := [d1, d2, d3, d4] }
  | _ => none }
def RationFairWrongFalsely : Prop := rationFairRow.holds Tryd.pinned (OpenSpec.ofChange rationFairWrong)

/-- 'gavelhouselaw1.RationSame': WHATEVER THE INPUT: true; the input reads as it did. -/
def rationSameSpec : ChangeSpec := { name := "rationSame", fn := fun _ => fun
  | [d1, d2, d3, d4, d5] => { results := [.lit (.bool true)], args := [d1, d2, d3, d4, d5] }
  | _ => none }
def rationSameRow : OpenClaim := { program := "ytjkaeiioofknoaadoor", sum := "fa0f145e243bf5fe2c9514ed6c30fc2cd79290f131c30299957fff13f8fbc1d2", func := "gavelhouse/gavelhouselaw1.RationSame", spec := "rationSame", unfollowed := true, recurses := true, named := ["gavelhouse/api.ErrBound", "gavelhouse/api.ErrShape", "gavelhouse/api.ErrFull", "gavelhouse/api.ErrExist"], apart := false, laid := [("gavelhouse/api.ErrBound", laid_gavelhouse_api_ErrBound), ("gavelhouse/api.ErrShape", laid_gavelhouse_api_ErrShape), ("gavelhouse/api.ErrExist", laid_gavelhouse_api_ErrExist), ("gavelhouse/api.ErrFull", laid_gavelhouse_api_ErrFull)] }
def RationSameSaid : Prop := rationSameRow.holds Tryd.pinned (OpenSpec.ofChange rationSameSpec)

/-- ITS FALSE NEIGHBOUR: 'it returns false'. Refute it at one input. -/
def rationSameWrong : ChangeSpec := { name := "rationSame", fn := fun _ => fun
  | [d1, d2, d3, d4, d5] => { results := [.lit (.bool false)], args := [d1, d2, d3, d4, d5] }
  | _ => none }
def RationSameWrongFalsely : Prop := rationSameRow.holds Tryd.pinned (OpenSpec.ofChange rationSameWrong)

/-- 'gavelhouselaw1.RationStreams': WHATEVER THE INPUT: true; the input reads as it did. -/
def rationStreamsSpec : ChangeSpec := { name := "rationStreams", fn := fun _ => fun
  | [d1, d2] => { results := [.lit (.bool true)], args := [d1, d2] }
  | _ => none }
def rationStreamsRow : OpenClaim := { program := "ytjkaeiioofknoaadoor", sum := "fa0f145e243bf5fe2c9514ed6c30fc2cd79290f131c30299957fff13f8fbc1d2", func := "gavelhouse/gavelhouselaw1.RationStreams", spec := "rationStreams", unfollowed := true, recurses := true, named := ["gavelhouse/api.ErrBound", "gavelhouse/api.ErrShape", "gavelhouse/api.ErrFull", "gavelhouse/api.ErrExist"], apart := false, laid := [("gavelhouse/api.ErrBound", laid_gavelhouse_api_ErrBound), ("gavelhouse/api.ErrShape", laid_gavelhouse_api_ErrShape), ("gavelhouse/api.ErrExist", laid_gavelhouse_api_ErrExist), ("gavelhouse/api.ErrFull", laid_gavelhouse_api_ErrFull)] }
def RationStreamsSaid : Prop := rationStreamsRow.holds Tryd.pinned (OpenSpec.ofChange rationStreamsSpec)

/-- ITS FALSE NEIGHBOUR: 'it returns false'. Refute it at one input. -/
def rationStreamsWrong : ChangeSpec := { name := "rationStreams", fn := fun _ => fun
  | [d1, d2] => { results := [.lit (.bool false)], args := [d1, d2] }
  | _ => none }
def RationStreamsWrongFalsely : Prop := rationStreamsRow.holds Tryd.pinned (OpenSpec.ofChange rationStreamsWrong)

/-- 'gavelhouselaw1.CurveTells': WHATEVER THE INPUT: true; the input reads as it did. -/
def curveTellsSpec : ChangeSpec := { name := "curveTells", fn := fun _ => fun
  | [d1, d2, d3] => { results := [.lit (.bool true)], args := [d1, d2, d3] }
  | _ => none }
def curveTellsRow : OpenClaim := { program := "ytjkaeiioofknoaadoor", sum := "fa0f145e243bf5fe2c9514ed6c30fc2cd79290f131c30299957fff13f8fbc1d2", func := "gavelhouse/gavelhouselaw1.CurveTells", spec := "curveTells", inPlace := ["internal/reflectlite.ValueOf", "(internal/reflectlite.Value).Type", "(internal/reflectlite.Value).IsNil", "internal/reflectlite.TypeOf", "(internal/reflectlite.Value).Elem", "(internal/reflectlite.Value).Set"], unfollowed := true, recurses := true, named := ["gavelhouse/api.ErrFull", "gavelhouse/api.ErrExist", "gavelhouse/api.ErrBound", "gavelhouse/api.ErrText", "gavelhouse/api.ErrShape", "gavelhouse/api.ErrKind", "gavelhouse/api.ErrSum", "gavelhouse/api.ErrNone", "gavelhouse/api.ErrOff", "gavelhouse/api.ErrPoor", "gavelhouse/api.ErrState", "gavelhouse/api.ErrOrder", "errors.errorType"], apart := false, laid := [("errors.errorType", laid_errors_errorType), ("gavelhouse/api.ErrText", laid_gavelhouse_api_ErrText), ("gavelhouse/api.ErrBound", laid_gavelhouse_api_ErrBound), ("gavelhouse/api.ErrShape", laid_gavelhouse_api_ErrShape), ("gavelhouse/api.ErrKind", laid_gavelhouse_api_ErrKind), ("gavelhouse/api.ErrSum", laid_gavelhouse_api_ErrSum), ("gavelhouse/api.ErrNone", laid_gavelhouse_api_ErrNone), ("gavelhouse/api.ErrExist", laid_gavelhouse_api_ErrExist), ("gavelhouse/api.ErrFull", laid_gavelhouse_api_ErrFull), ("gavelhouse/api.ErrOff", laid_gavelhouse_api_ErrOff), ("gavelhouse/api.ErrPoor", laid_gavelhouse_api_ErrPoor), ("gavelhouse/api.ErrState", laid_gavelhouse_api_ErrState), ("gavelhouse/api.ErrOrder", laid_gavelhouse_api_ErrOrder)] }
def CurveTellsSaid : Prop := curveTellsRow.holds Tryd.pinned (OpenSpec.ofChange curveTellsSpec)

/-- ITS FALSE NEIGHBOUR: 'it returns false'. Refute it at one input. -/
def curveTellsWrong : ChangeSpec := { name := "curveTells", fn := fun _ => fun
  | [d1, d2, d3] => { results := [.lit (.bool false)], args := [d1, d2, d3] }
  | _ => none }
def CurveTellsWrongFalsely : Prop := curveTellsRow.holds Tryd.pinned (OpenSpec.ofChange curveTellsWrong)

/-- 'gavelhouselaw1.RationFills': WHATEVER THE INPUT: true; the input reads as it did. -/
def rationFillsSpec : ChangeSpec := { name := "rationFills", fn := fun _ => fun
  | [d1, d2, d3, d4] => { results := [.lit (.bool true)], args := [d1, d2, d3, d4] }
  | _ => none }
def rationFillsRow : OpenClaim := { program := "ytjkaeiioofknoaadoor", sum := "fa0f145e243bf5fe2c9514ed6c30fc2cd79290f131c30299957fff13f8fbc1d2", func := "gavelhouse/gavelhouselaw1.RationFills", spec := "rationFills", inPlace := ["internal/reflectlite.ValueOf", "(internal/reflectlite.Value).Type", "(internal/reflectlite.Value).IsNil", "internal/reflectlite.TypeOf", "(internal/reflectlite.Value).Elem", "(internal/reflectlite.Value).Set"], unfollowed := true, recurses := true, named := ["gavelhouse/api.ErrBound", "gavelhouse/api.ErrShape", "gavelhouse/api.ErrFull", "gavelhouse/api.ErrExist", "gavelhouse/api.ErrText", "gavelhouse/api.ErrKind", "gavelhouse/api.ErrSum", "gavelhouse/api.ErrNone", "gavelhouse/api.ErrOff", "gavelhouse/api.ErrPoor", "gavelhouse/api.ErrState", "gavelhouse/api.ErrOrder", "errors.errorType"], apart := false, laid := [("errors.errorType", laid_errors_errorType), ("gavelhouse/api.ErrText", laid_gavelhouse_api_ErrText), ("gavelhouse/api.ErrBound", laid_gavelhouse_api_ErrBound), ("gavelhouse/api.ErrShape", laid_gavelhouse_api_ErrShape), ("gavelhouse/api.ErrKind", laid_gavelhouse_api_ErrKind), ("gavelhouse/api.ErrSum", laid_gavelhouse_api_ErrSum), ("gavelhouse/api.ErrNone", laid_gavelhouse_api_ErrNone), ("gavelhouse/api.ErrExist", laid_gavelhouse_api_ErrExist), ("gavelhouse/api.ErrFull", laid_gavelhouse_api_ErrFull), ("gavelhouse/api.ErrOff", laid_gavelhouse_api_ErrOff), ("gavelhouse/api.ErrPoor", laid_gavelhouse_api_ErrPoor), ("gavelhouse/api.ErrState", laid_gavelhouse_api_ErrState), ("gavelhouse/api.ErrOrder", laid_gavelhouse_api_ErrOrder)] }
def RationFillsSaid : Prop := rationFillsRow.holds Tryd.pinned (OpenSpec.ofChange rationFillsSpec)

/-- ITS FALSE NEIGHBOUR: 'it returns false'. Refute it at one input. -/
def rationFillsWrong : ChangeSpec := { name := "rationFills", fn := fun _ => fun
  | [d1, d2, d3, d4] => { results := [.lit (.bool false)], args := [d1, d2, d3, d4] }
  | _ => none }
def RationFillsWrongFalsely : Prop := rationFillsRow.holds Tryd.pinned (OpenSpec.ofChange rationFillsWrong)

/- THE SECOND FORM. 'bulk': how many values and letters a reading holds, each counted each time it is reached (what is shared counts as often as it is met; a slice's spare places count too). A statement '..UptoSaid' is the law's where the arguments, and the package variables that the reading takes, are together of bulk at most 1048576: NARROWER than '..Said'. Prove '..Said' where nothing that the law and all that it calls make is longer than what came in: it says more and counts as full. Else prove '..UptoSaid'. A law counts once. -/
mutual
def uptoBulk {H : Type} : DataW H → Nat
  | .lit (.string bytes) => bytes.length + 1
  | .lit _ => 1
  | .nil => 1
  | .ptr d => uptoBulk d + 1
  | .slice elems spare => uptoBulkAll elems + uptoBulkAll spare + 1
  | .agg parts => uptoBulkAll parts + 1
  | .iface _ d => uptoBulk d + 1
  | .map entries => uptoBulkEntries entries + 1
  | .held _ => 1
def uptoBulkAll {H : Type} : List (DataW H) → Nat
  | [] => 0
  | d :: r => uptoBulk d + uptoBulkAll r
def uptoBulkEntries {H : Type} : List (Lit × DataW H) → Nat
  | [] => 0
  | x :: r => uptoBulkEntry x + uptoBulkEntries r
def uptoBulkEntry {H : Type} : Lit × DataW H → Nat
  | (.string bytes, d) => bytes.length + uptoBulk d + 1
  | (_, d) => uptoBulk d + 1
 end
def uptoSmall : (H : Type) → List (DataW H) → Bool := fun _ ds => decide (uptoBulkAll ds ≤ 1048576)
def OpenSpec.upto (s : _root_.Go.ChangeSpec) : _root_.Go.OpenSpec := { _root_.Go.OpenSpec.ofChange s with cond := some uptoSmall }

/-- 'gavelhouselaw1.CurveAdds', WHERE WHAT IT READS IS OF BULK AT MOST 1048576: true; the input reads as it did. -/
def curveAddsUptoRow : OpenClaim := { program := "ytjkaeiioofknoaadoor", sum := "fa0f145e243bf5fe2c9514ed6c30fc2cd79290f131c30299957fff13f8fbc1d2", func := "gavelhouse/gavelhouselaw1.CurveAdds", spec := "curveAdds", unfollowed := true, recurses := true, named := ["gavelhouse/api.ErrFull", "gavelhouse/api.ErrExist", "gavelhouse/api.ErrBound"], apart := false, laid := [("gavelhouse/api.ErrBound", laid_gavelhouse_api_ErrBound), ("gavelhouse/api.ErrExist", laid_gavelhouse_api_ErrExist), ("gavelhouse/api.ErrFull", laid_gavelhouse_api_ErrFull)], narrowed := true }
def CurveAddsUptoSaid : Prop := curveAddsUptoRow.holds Tryd.pinned (OpenSpec.upto curveAddsSpec)

/-- 'gavelhouselaw1.ClearShifts', WHERE WHAT IT READS IS OF BULK AT MOST 1048576: true; the input reads as it did. -/
def clearShiftsUptoRow : OpenClaim := { program := "ytjkaeiioofknoaadoor", sum := "fa0f145e243bf5fe2c9514ed6c30fc2cd79290f131c30299957fff13f8fbc1d2", func := "gavelhouse/gavelhouselaw1.ClearShifts", spec := "clearShifts", unfollowed := true, recurses := true, named := ["gavelhouse/api.ErrBound", "gavelhouse/api.ErrFull", "gavelhouse/api.ErrExist"], apart := false, laid := [("gavelhouse/api.ErrBound", laid_gavelhouse_api_ErrBound), ("gavelhouse/api.ErrExist", laid_gavelhouse_api_ErrExist), ("gavelhouse/api.ErrFull", laid_gavelhouse_api_ErrFull)], narrowed := true }
def ClearShiftsUptoSaid : Prop := clearShiftsUptoRow.holds Tryd.pinned (OpenSpec.upto clearShiftsSpec)

/-- 'gavelhouselaw1.ClearBest', WHERE WHAT IT READS IS OF BULK AT MOST 1048576: true; the input reads as it did. -/
def clearBestUptoRow : OpenClaim := { program := "ytjkaeiioofknoaadoor", sum := "fa0f145e243bf5fe2c9514ed6c30fc2cd79290f131c30299957fff13f8fbc1d2", func := "gavelhouse/gavelhouselaw1.ClearBest", spec := "clearBest", unfollowed := true, recurses := true, named := ["gavelhouse/api.ErrBound", "gavelhouse/api.ErrFull", "gavelhouse/api.ErrExist"], apart := false, laid := [("gavelhouse/api.ErrBound", laid_gavelhouse_api_ErrBound), ("gavelhouse/api.ErrExist", laid_gavelhouse_api_ErrExist), ("gavelhouse/api.ErrFull", laid_gavelhouse_api_ErrFull)], narrowed := true }
def ClearBestUptoSaid : Prop := clearBestUptoRow.holds Tryd.pinned (OpenSpec.upto clearBestSpec)

/-- 'gavelhouselaw1.ClearPrices', WHERE WHAT IT READS IS OF BULK AT MOST 1048576: true; the input reads as it did. -/
def clearPricesUptoRow : OpenClaim := { program := "ytjkaeiioofknoaadoor", sum := "fa0f145e243bf5fe2c9514ed6c30fc2cd79290f131c30299957fff13f8fbc1d2", func := "gavelhouse/gavelhouselaw1.ClearPrices", spec := "clearPrices", inPlace := ["internal/reflectlite.ValueOf", "(internal/reflectlite.Value).Type", "(internal/reflectlite.Value).IsNil", "internal/reflectlite.TypeOf", "(internal/reflectlite.Value).Elem", "(internal/reflectlite.Value).Set"], unfollowed := true, recurses := true, named := ["gavelhouse/api.ErrBound", "gavelhouse/api.ErrFull", "gavelhouse/api.ErrExist", "gavelhouse/api.ErrText", "gavelhouse/api.ErrShape", "gavelhouse/api.ErrKind", "gavelhouse/api.ErrSum", "gavelhouse/api.ErrNone", "gavelhouse/api.ErrOff", "gavelhouse/api.ErrPoor", "gavelhouse/api.ErrState", "gavelhouse/api.ErrOrder", "errors.errorType"], apart := false, laid := [("errors.errorType", laid_errors_errorType), ("gavelhouse/api.ErrText", laid_gavelhouse_api_ErrText), ("gavelhouse/api.ErrBound", laid_gavelhouse_api_ErrBound), ("gavelhouse/api.ErrShape", laid_gavelhouse_api_ErrShape), ("gavelhouse/api.ErrKind", laid_gavelhouse_api_ErrKind), ("gavelhouse/api.ErrSum", laid_gavelhouse_api_ErrSum), ("gavelhouse/api.ErrNone", laid_gavelhouse_api_ErrNone), ("gavelhouse/api.ErrExist", laid_gavelhouse_api_ErrExist), ("gavelhouse/api.ErrFull", laid_gavelhouse_api_ErrFull), ("gavelhouse/api.ErrOff", laid_gavelhouse_api_ErrOff), ("gavelhouse/api.ErrPoor", laid_gavelhouse_api_ErrPoor), ("gavelhouse/api.ErrState", laid_gavelhouse_api_ErrState), ("gavelhouse/api.ErrOrder", laid_gavelhouse_api_ErrOrder)], narrowed := true }
def ClearPricesUptoSaid : Prop := clearPricesUptoRow.holds Tryd.pinned (OpenSpec.upto clearPricesSpec)

/-- 'gavelhouselaw1.CurveFalls', WHERE WHAT IT READS IS OF BULK AT MOST 1048576: true; the input reads as it did. -/
def curveFallsUptoRow : OpenClaim := { program := "ytjkaeiioofknoaadoor", sum := "fa0f145e243bf5fe2c9514ed6c30fc2cd79290f131c30299957fff13f8fbc1d2", func := "gavelhouse/gavelhouselaw1.CurveFalls", spec := "curveFalls", unfollowed := true, recurses := true, named := ["gavelhouse/api.ErrFull", "gavelhouse/api.ErrExist", "gavelhouse/api.ErrBound"], apart := false, laid := [("gavelhouse/api.ErrBound", laid_gavelhouse_api_ErrBound), ("gavelhouse/api.ErrExist", laid_gavelhouse_api_ErrExist), ("gavelhouse/api.ErrFull", laid_gavelhouse_api_ErrFull)], narrowed := true }
def CurveFallsUptoSaid : Prop := curveFallsUptoRow.holds Tryd.pinned (OpenSpec.upto curveFallsSpec)

/-- 'gavelhouselaw1.RationFair', WHERE WHAT IT READS IS OF BULK AT MOST 1048576: true; the input reads as it did. -/
def rationFairUptoRow : OpenClaim := { program := "ytjkaeiioofknoaadoor", sum := "fa0f145e243bf5fe2c9514ed6c30fc2cd79290f131c30299957fff13f8fbc1d2", func := "gavelhouse/gavelhouselaw1.RationFair", spec := "rationFair", unfollowed := true, recurses := true, named := ["gavelhouse/api.ErrBound", "gavelhouse/api.ErrShape", "gavelhouse/api.ErrFull", "gavelhouse/api.ErrExist"], apart := false, laid := [("gavelhouse/api.ErrBound", laid_gavelhouse_api_ErrBound), ("gavelhouse/api.ErrShape", laid_gavelhouse_api_ErrShape), ("gavelhouse/api.ErrExist", laid_gavelhouse_api_ErrExist), ("gavelhouse/api.ErrFull", laid_gavelhouse_api_ErrFull)], narrowed := true }
def RationFairUptoSaid : Prop := rationFairUptoRow.holds Tryd.pinned (OpenSpec.upto rationFairSpec)

/-- 'gavelhouselaw1.RationSame', WHERE WHAT IT READS IS OF BULK AT MOST 1048576: true; the input reads as it did. -/
def rationSameUptoRow : OpenClaim := { program := "ytjkaeiioofknoaadoor", sum := "fa0f145e243bf5fe2c9514ed6c30fc2cd79290f131c30299957fff13f8fbc1d2", func := "gavelhouse/gavelhouselaw1.RationSame", spec := "rationSame", unfollowed := true, recurses := true, named := ["gavelhouse/api.ErrBound", "gavelhouse/api.ErrShape", "gavelhouse/api.ErrFull", "gavelhouse/api.ErrExist"], apart := false, laid := [("gavelhouse/api.ErrBound", laid_gavelhouse_api_ErrBound), ("gavelhouse/api.ErrShape", laid_gavelhouse_api_ErrShape), ("gavelhouse/api.ErrExist", laid_gavelhouse_api_ErrExist), ("gavelhouse/api.ErrFull", laid_gavelhouse_api_ErrFull)], narrowed := true }
def RationSameUptoSaid : Prop := rationSameUptoRow.holds Tryd.pinned (OpenSpec.upto rationSameSpec)

/-- 'gavelhouselaw1.RationStreams', WHERE WHAT IT READS IS OF BULK AT MOST 1048576: true; the input reads as it did. -/
def rationStreamsUptoRow : OpenClaim := { program := "ytjkaeiioofknoaadoor", sum := "fa0f145e243bf5fe2c9514ed6c30fc2cd79290f131c30299957fff13f8fbc1d2", func := "gavelhouse/gavelhouselaw1.RationStreams", spec := "rationStreams", unfollowed := true, recurses := true, named := ["gavelhouse/api.ErrBound", "gavelhouse/api.ErrShape", "gavelhouse/api.ErrFull", "gavelhouse/api.ErrExist"], apart := false, laid := [("gavelhouse/api.ErrBound", laid_gavelhouse_api_ErrBound), ("gavelhouse/api.ErrShape", laid_gavelhouse_api_ErrShape), ("gavelhouse/api.ErrExist", laid_gavelhouse_api_ErrExist), ("gavelhouse/api.ErrFull", laid_gavelhouse_api_ErrFull)], narrowed := true }
def RationStreamsUptoSaid : Prop := rationStreamsUptoRow.holds Tryd.pinned (OpenSpec.upto rationStreamsSpec)

/-- 'gavelhouselaw1.CurveTells', WHERE WHAT IT READS IS OF BULK AT MOST 1048576: true; the input reads as it did. -/
def curveTellsUptoRow : OpenClaim := { program := "ytjkaeiioofknoaadoor", sum := "fa0f145e243bf5fe2c9514ed6c30fc2cd79290f131c30299957fff13f8fbc1d2", func := "gavelhouse/gavelhouselaw1.CurveTells", spec := "curveTells", inPlace := ["internal/reflectlite.ValueOf", "(internal/reflectlite.Value).Type", "(internal/reflectlite.Value).IsNil", "internal/reflectlite.TypeOf", "(internal/reflectlite.Value).Elem", "(internal/reflectlite.Value).Set"], unfollowed := true, recurses := true, named := ["gavelhouse/api.ErrFull", "gavelhouse/api.ErrExist", "gavelhouse/api.ErrBound", "gavelhouse/api.ErrText", "gavelhouse/api.ErrShape", "gavelhouse/api.ErrKind", "gavelhouse/api.ErrSum", "gavelhouse/api.ErrNone", "gavelhouse/api.ErrOff", "gavelhouse/api.ErrPoor", "gavelhouse/api.ErrState", "gavelhouse/api.ErrOrder", "errors.errorType"], apart := false, laid := [("errors.errorType", laid_errors_errorType), ("gavelhouse/api.ErrText", laid_gavelhouse_api_ErrText), ("gavelhouse/api.ErrBound", laid_gavelhouse_api_ErrBound), ("gavelhouse/api.ErrShape", laid_gavelhouse_api_ErrShape), ("gavelhouse/api.ErrKind", laid_gavelhouse_api_ErrKind), ("gavelhouse/api.ErrSum", laid_gavelhouse_api_ErrSum), ("gavelhouse/api.ErrNone", laid_gavelhouse_api_ErrNone), ("gavelhouse/api.ErrExist", laid_gavelhouse_api_ErrExist), ("gavelhouse/api.ErrFull", laid_gavelhouse_api_ErrFull), ("gavelhouse/api.ErrOff", laid_gavelhouse_api_ErrOff), ("gavelhouse/api.ErrPoor", laid_gavelhouse_api_ErrPoor), ("gavelhouse/api.ErrState", laid_gavelhouse_api_ErrState), ("gavelhouse/api.ErrOrder", laid_gavelhouse_api_ErrOrder)], narrowed := true }
def CurveTellsUptoSaid : Prop := curveTellsUptoRow.holds Tryd.pinned (OpenSpec.upto curveTellsSpec)

/-- 'gavelhouselaw1.RationFills', WHERE WHAT IT READS IS OF BULK AT MOST 1048576: true; the input reads as it did. -/
def rationFillsUptoRow : OpenClaim := { program := "ytjkaeiioofknoaadoor", sum := "fa0f145e243bf5fe2c9514ed6c30fc2cd79290f131c30299957fff13f8fbc1d2", func := "gavelhouse/gavelhouselaw1.RationFills", spec := "rationFills", inPlace := ["internal/reflectlite.ValueOf", "(internal/reflectlite.Value).Type", "(internal/reflectlite.Value).IsNil", "internal/reflectlite.TypeOf", "(internal/reflectlite.Value).Elem", "(internal/reflectlite.Value).Set"], unfollowed := true, recurses := true, named := ["gavelhouse/api.ErrBound", "gavelhouse/api.ErrShape", "gavelhouse/api.ErrFull", "gavelhouse/api.ErrExist", "gavelhouse/api.ErrText", "gavelhouse/api.ErrKind", "gavelhouse/api.ErrSum", "gavelhouse/api.ErrNone", "gavelhouse/api.ErrOff", "gavelhouse/api.ErrPoor", "gavelhouse/api.ErrState", "gavelhouse/api.ErrOrder", "errors.errorType"], apart := false, laid := [("errors.errorType", laid_errors_errorType), ("gavelhouse/api.ErrText", laid_gavelhouse_api_ErrText), ("gavelhouse/api.ErrBound", laid_gavelhouse_api_ErrBound), ("gavelhouse/api.ErrShape", laid_gavelhouse_api_ErrShape), ("gavelhouse/api.ErrKind", laid_gavelhouse_api_ErrKind), ("gavelhouse/api.ErrSum", laid_gavelhouse_api_ErrSum), ("gavelhouse/api.ErrNone", laid_gavelhouse_api_ErrNone), ("gavelhouse/api.ErrExist", laid_gavelhouse_api_ErrExist), ("gavelhouse/api.ErrFull", laid_gavelhouse_api_ErrFull), ("gavelhouse/api.ErrOff", laid_gavelhouse_api_ErrOff), ("gavelhouse/api.ErrPoor", laid_gavelhouse_api_ErrPoor), ("gavelhouse/api.ErrState", laid_gavelhouse_api_ErrState), ("gavelhouse/api.ErrOrder", laid_gavelhouse_api_ErrOrder)], narrowed := true }
def RationFillsUptoSaid : Prop := rationFillsUptoRow.holds Tryd.pinned (OpenSpec.upto rationFillsSpec)

end Rows
end Go.Proofs.YtjkaeiioofknoaaDoor
