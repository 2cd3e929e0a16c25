/-
  NARROWER THAN 'FOR EVERY INPUT', by the rows' own cells (each row's printed sentence says how): BatchFair: laid · BatchStill: laid · BatchAgain: laid · BatchHolds: laid.
  DERIVED. THE GIVEN ROWS OF THIS SEAT. 4 by the template 'for every input the law returns true; each argument reads behind the call as it read before'; 0 by the template 'total and deterministic' (their statements: YtmbboflakfokhaaDoorTotals.lean).
  GIVEN WITH THE SEED: the statements are not yours to turn. If you find one false, say at which input.
  Laid BY PROGRAM, IN A SANDBOX (cutbox-rows.mjs): the forced cells as the released guide's own fill.sh prints them over the translation 3282ff2aec5cd40d… (all of the seat's roots in one cut). By AI agents, Wed Nov 11 2026. No macro, syntax, notation, axiom, sorry.
-/
import Derived.Test.YtmbboflakfokhaaDoorChecked
import GoSem.Claim
import GoSem.ClaimJoined
import GoSem.ClaimMapViews
import Derived.JoinedTies
import Derived.KernelRfl
namespace Go.Proofs.YtmbboflakfokhaaDoor
/- THE CELL 'sum', in the pinned program and in every row, IS THE sha256 OF THE DUMP (.gsa) THAT YtmbboflakfokhaaDoorProg.lean LOADS. Nothing in Lean hashes anything: it is a label: what it is worth is what the hold of that sum in a sandbox is worth. -/
noncomputable def Tryd.pinned : Pinned := { name := "ytmbboflakfokhaadoor", sum := "3282ff2aec5cd40d8416cf0f801a730994192b572e95b8f35cf2f24702b0ca4d", checked := Tryd.checked }
namespace Rows
def none {H : Type} : Left H := { results := [], args := [] }

/- WHAT THE LISTED PACKAGE-LEVEL VARIABLES READ AS WHEN THE CALL BEGINS. Each datum BY PROGRAM (the guide's laid-datum.mjs) off the statement by which the dump's own 'gosem.cut.vars' lays the variable. In a bare row this is a premise. The card (YtmbboflakfokhaaDoorCards.lean) ties it to the program's text. -/
def laid_gavelhouse_api_ErrBound {H : Type} : DataW H := .iface "*errors.errorString" (.ptr (.agg [.lit (.string [103, 97, 118, 101, 108, 104, 111, 117, 115, 101, 58, 32, 98, 111, 117, 110, 100])]))
def laid_gavelhouse_api_ErrShape {H : Type} : DataW H := .iface "*errors.errorString" (.ptr (.agg [.lit (.string [103, 97, 118, 101, 108, 104, 111, 117, 115, 101, 58, 32, 115, 104, 97, 112, 101])]))
def laid_gavelhouse_api_ErrKind {H : Type} : DataW H := .iface "*errors.errorString" (.ptr (.agg [.lit (.string [103, 97, 118, 101, 108, 104, 111, 117, 115, 101, 58, 32, 107, 105, 110, 100])]))
def laid_gavelhouse_api_ErrNone {H : Type} : DataW H := .iface "*errors.errorString" (.ptr (.agg [.lit (.string [103, 97, 118, 101, 108, 104, 111, 117, 115, 101, 58, 32, 110, 111, 110, 101])]))
def laid_gavelhouse_api_ErrExist {H : Type} : DataW H := .iface "*errors.errorString" (.ptr (.agg [.lit (.string [103, 97, 118, 101, 108, 104, 111, 117, 115, 101, 58, 32, 101, 120, 105, 115, 116])]))
def laid_gavelhouse_api_ErrFull {H : Type} : DataW H := .iface "*errors.errorString" (.ptr (.agg [.lit (.string [103, 97, 118, 101, 108, 104, 111, 117, 115, 101, 58, 32, 102, 117, 108, 108])]))
def laid_gavelhouse_api_ErrPoor {H : Type} : DataW H := .iface "*errors.errorString" (.ptr (.agg [.lit (.string [103, 97, 118, 101, 108, 104, 111, 117, 115, 101, 58, 32, 112, 111, 111, 114])]))
def laid_gavelhouse_api_ErrOrder {H : Type} : DataW H := .iface "*errors.errorString" (.ptr (.agg [.lit (.string [103, 97, 118, 101, 108, 104, 111, 117, 115, 101, 58, 32, 111, 114, 100, 101, 114])]))

/-- 'gavelhouselaw2.BatchFair': WHATEVER THE INPUT: true; the input reads as it did. -/
def batchFairSpec : ChangeSpec := { name := "batchFair", fn := fun _ => fun
  | [d1, d2, d3] => { results := [.lit (.bool true)], args := [d1, d2, d3] }
  | _ => none }
def batchFairRow : OpenClaim := { program := "ytmbboflakfokhaadoor", sum := "3282ff2aec5cd40d8416cf0f801a730994192b572e95b8f35cf2f24702b0ca4d", func := "gavelhouse/gavelhouselaw2.BatchFair", spec := "batchFair", unfollowed := true, recurses := true, named := ["gavelhouse/api.ErrBound", "gavelhouse/api.ErrFull", "gavelhouse/api.ErrKind", "gavelhouse/api.ErrShape", "gavelhouse/api.ErrExist", "gavelhouse/api.ErrPoor", "gavelhouse/api.ErrNone", "gavelhouse/api.ErrOrder"], apart := false, laid := [("gavelhouse/api.ErrBound", laid_gavelhouse_api_ErrBound), ("gavelhouse/api.ErrShape", laid_gavelhouse_api_ErrShape), ("gavelhouse/api.ErrKind", laid_gavelhouse_api_ErrKind), ("gavelhouse/api.ErrNone", laid_gavelhouse_api_ErrNone), ("gavelhouse/api.ErrExist", laid_gavelhouse_api_ErrExist), ("gavelhouse/api.ErrFull", laid_gavelhouse_api_ErrFull), ("gavelhouse/api.ErrPoor", laid_gavelhouse_api_ErrPoor), ("gavelhouse/api.ErrOrder", laid_gavelhouse_api_ErrOrder)] }
def BatchFairSaid : Prop := batchFairRow.holds Tryd.pinned (OpenSpec.ofChange batchFairSpec)

/-- ITS FALSE NEIGHBOUR: 'it returns false'. Refute it at one input. -/
def batchFairWrong : ChangeSpec := { name := "batchFair", fn := fun _ => fun
  | [d1, d2, d3] => { results := [.lit (.bool false)], args := [d1, d2, d3] }
  | _ => none }
def BatchFairWrongFalsely : Prop := batchFairRow.holds Tryd.pinned (OpenSpec.ofChange batchFairWrong)

/-- 'gavelhouselaw2.BatchStill': WHATEVER THE INPUT: true; the input reads as it did. -/
def batchStillSpec : ChangeSpec := { name := "batchStill", fn := fun _ => fun
  | [d1, d2, d3] => { results := [.lit (.bool true)], args := [d1, d2, d3] }
  | _ => none }
def batchStillRow : OpenClaim := { program := "ytmbboflakfokhaadoor", sum := "3282ff2aec5cd40d8416cf0f801a730994192b572e95b8f35cf2f24702b0ca4d", func := "gavelhouse/gavelhouselaw2.BatchStill", spec := "batchStill", unfollowed := true, recurses := true, named := ["gavelhouse/api.ErrBound", "gavelhouse/api.ErrFull", "gavelhouse/api.ErrKind", "gavelhouse/api.ErrShape", "gavelhouse/api.ErrExist", "gavelhouse/api.ErrPoor", "gavelhouse/api.ErrNone", "gavelhouse/api.ErrOrder"], apart := false, laid := [("gavelhouse/api.ErrBound", laid_gavelhouse_api_ErrBound), ("gavelhouse/api.ErrShape", laid_gavelhouse_api_ErrShape), ("gavelhouse/api.ErrKind", laid_gavelhouse_api_ErrKind), ("gavelhouse/api.ErrNone", laid_gavelhouse_api_ErrNone), ("gavelhouse/api.ErrExist", laid_gavelhouse_api_ErrExist), ("gavelhouse/api.ErrFull", laid_gavelhouse_api_ErrFull), ("gavelhouse/api.ErrPoor", laid_gavelhouse_api_ErrPoor), ("gavelhouse/api.ErrOrder", laid_gavelhouse_api_ErrOrder)] }
def BatchStillSaid : Prop := batchStillRow.holds Tryd.pinned (OpenSpec.ofChange batchStillSpec)

/-- ITS FALSE NEIGHBOUR: 'it returns false'. Refute it at one input. -/
def batchStillWrong : ChangeSpec := { name := "batchStill", fn := fun _ => fun
  | [d1, d2, d3] => { results := [.lit (.bool false)], args := [d1, d2, d3] }
  | _ => none }
def BatchStillWrongFalsely : Prop := batchStillRow.holds Tryd.pinned (OpenSpec.ofChange batchStillWrong)

/-- 'gavelhouselaw2.BatchAgain': WHATEVER THE INPUT: true; the input reads as it did. -/
def batchAgainSpec : ChangeSpec := { name := "batchAgain", fn := fun _ => fun
  | [d1, d2, d3] => { results := [.lit (.bool true)], args := [d1, d2, d3] }
  | _ => none }
def batchAgainRow : OpenClaim := { program := "ytmbboflakfokhaadoor", sum := "3282ff2aec5cd40d8416cf0f801a730994192b572e95b8f35cf2f24702b0ca4d", func := "gavelhouse/gavelhouselaw2.BatchAgain", spec := "batchAgain", unfollowed := true, recurses := true, named := ["gavelhouse/api.ErrBound", "gavelhouse/api.ErrFull", "gavelhouse/api.ErrKind", "gavelhouse/api.ErrShape", "gavelhouse/api.ErrExist", "gavelhouse/api.ErrPoor", "gavelhouse/api.ErrNone", "gavelhouse/api.ErrOrder"], apart := false, laid := [("gavelhouse/api.ErrBound", laid_gavelhouse_api_ErrBound), ("gavelhouse/api.ErrShape", laid_gavelhouse_api_ErrShape), ("gavelhouse/api.ErrKind", laid_gavelhouse_api_ErrKind), ("gavelhouse/api.ErrNone", laid_gavelhouse_api_ErrNone), ("gavelhouse/api.ErrExist", laid_gavelhouse_api_ErrExist), ("gavelhouse/api.ErrFull", laid_gavelhouse_api_ErrFull), ("gavelhouse/api.ErrPoor", laid_gavelhouse_api_ErrPoor), ("gavelhouse/api.ErrOrder", laid_gavelhouse_api_ErrOrder)] }
def BatchAgainSaid : Prop := batchAgainRow.holds Tryd.pinned (OpenSpec.ofChange batchAgainSpec)

/-- ITS FALSE NEIGHBOUR: 'it returns false'. Refute it at one input. -/
def batchAgainWrong : ChangeSpec := { name := "batchAgain", fn := fun _ => fun
  | [d1, d2, d3] => { results := [.lit (.bool false)], args := [d1, d2, d3] }
  | _ => none }
def BatchAgainWrongFalsely : Prop := batchAgainRow.holds Tryd.pinned (OpenSpec.ofChange batchAgainWrong)

/-- 'gavelhouselaw2.BatchHolds': WHATEVER THE INPUT: true; the input reads as it did. -/
def batchHoldsSpec : ChangeSpec := { name := "batchHolds", fn := fun _ => fun
  | [d] => { results := [.lit (.bool true)], args := [d] }
  | _ => none }
def batchHoldsRow : OpenClaim := { program := "ytmbboflakfokhaadoor", sum := "3282ff2aec5cd40d8416cf0f801a730994192b572e95b8f35cf2f24702b0ca4d", func := "gavelhouse/gavelhouselaw2.BatchHolds", spec := "batchHolds", unfollowed := true, recurses := true, named := ["gavelhouse/api.ErrBound", "gavelhouse/api.ErrFull", "gavelhouse/api.ErrKind", "gavelhouse/api.ErrShape", "gavelhouse/api.ErrExist", "gavelhouse/api.ErrPoor", "gavelhouse/api.ErrNone", "gavelhouse/api.ErrOrder"], apart := false, laid := [("gavelhouse/api.ErrBound", laid_gavelhouse_api_ErrBound), ("gavelhouse/api.ErrShape", laid_gavelhouse_api_ErrShape), ("gavelhouse/api.ErrKind", laid_gavelhouse_api_ErrKind), ("gavelhouse/api.ErrNone", laid_gavelhouse_api_ErrNone), ("gavelhouse/api.ErrExist", laid_gavelhouse_api_ErrExist), ("gavelhouse/api.ErrFull", laid_gavelhouse_api_ErrFull), ("gavelhouse/api.ErrPoor", laid_gavelhouse_api_ErrPoor), ("gavelhouse/api.ErrOrder", laid_gavelhouse_api_ErrOrder)] }
def BatchHoldsSaid : Prop := batchHoldsRow.holds Tryd.pinned (OpenSpec.ofChange batchHoldsSpec)

/-- ITS FALSE NEIGHBOUR: 'it returns false'. Refute it at one input. -/
def batchHoldsWrong : ChangeSpec := { name := "batchHolds", fn := fun _ => fun
  | [d] => { results := [.lit (.bool false)], args := [d] }
  | _ => none }
def BatchHoldsWrongFalsely : Prop := batchHoldsRow.holds Tryd.pinned (OpenSpec.ofChange batchHoldsWrong)

/- THE SECOND FORM. 'bulk': how many values and letters a reading holds, each counted each time it is reached (what is shared counts as often as it is met; a slice's spare places count too). A statement '..UptoSaid' is the law's where the arguments, and the package variables that the reading takes, are together of bulk at most 1048576: NARROWER than '..Said'. Prove '..Said' where nothing that the law and all that it calls make is longer than what came in: it says more and counts as full. Else prove '..UptoSaid'. A law counts once. -/
mutual
def uptoBulk {H : Type} : DataW H → Nat
  | .lit (.string bytes) => bytes.length + 1
  | .lit _ => 1
  | .nil => 1
  | .ptr d => uptoBulk d + 1
  | .slice elems spare => uptoBulkAll elems + uptoBulkAll spare + 1
  | .agg parts => uptoBulkAll parts + 1
  | .iface _ d => uptoBulk d + 1
  | .map entries => uptoBulkEntries entries + 1
  | .held _ => 1
def uptoBulkAll {H : Type} : List (DataW H) → Nat
  | [] => 0
  | d :: r => uptoBulk d + uptoBulkAll r
def uptoBulkEntries {H : Type} : List (Lit × DataW H) → Nat
  | [] => 0
  | x :: r => uptoBulkEntry x + uptoBulkEntries r
def uptoBulkEntry {H : Type} : Lit × DataW H → Nat
  | (.string bytes, d) => bytes.length + uptoBulk d + 1
  | (_, d) => uptoBulk d + 1
 end
def uptoSmall : (H : Type) → List (DataW H) → Bool := fun _ ds => decide (uptoBulkAll ds ≤ 1048576)
def OpenSpec.upto (s : _root_.Go.ChangeSpec) : _root_.Go.OpenSpec := { _root_.Go.OpenSpec.ofChange s with cond := some uptoSmall }

/-- 'gavelhouselaw2.BatchFair', WHERE WHAT IT READS IS OF BULK AT MOST 1048576: true; the input reads as it did. -/
def batchFairUptoRow : OpenClaim := { program := "ytmbboflakfokhaadoor", sum := "3282ff2aec5cd40d8416cf0f801a730994192b572e95b8f35cf2f24702b0ca4d", func := "gavelhouse/gavelhouselaw2.BatchFair", spec := "batchFair", unfollowed := true, recurses := true, named := ["gavelhouse/api.ErrBound", "gavelhouse/api.ErrFull", "gavelhouse/api.ErrKind", "gavelhouse/api.ErrShape", "gavelhouse/api.ErrExist", "gavelhouse/api.ErrPoor", "gavelhouse/api.ErrNone", "gavelhouse/api.ErrOrder"], apart := false, laid := [("gavelhouse/api.ErrBound", laid_gavelhouse_api_ErrBound), ("gavelhouse/api.ErrShape", laid_gavelhouse_api_ErrShape), ("gavelhouse/api.ErrKind", laid_gavelhouse_api_ErrKind), ("gavelhouse/api.ErrNone", laid_gavelhouse_api_ErrNone), ("gavelhouse/api.ErrExist", laid_gavelhouse_api_ErrExist), ("gavelhouse/api.ErrFull", laid_gavelhouse_api_ErrFull), ("gavelhouse/api.ErrPoor", laid_gavelhouse_api_ErrPoor), ("gavelhouse/api.ErrOrder", laid_gavelhouse_api_ErrOrder)], narrowed := true }
def BatchFairUptoSaid : Prop := batchFairUptoRow.holds Tryd.pinned (OpenSpec.upto batchFairSpec)

/-- 'gavelhouselaw2.BatchStill', WHERE WHAT IT READS IS OF BULK AT MOST 1048576: true; the input reads as it did. -/
def batchStillUptoRow : OpenClaim := { program := "ytmbboflakfokhaadoor", sum := "3282ff2aec5cd40d8416cf0f801a730994192b572e95b8f35cf2f24702b0ca4d", func := "gavelhouse/gavelhouselaw2.BatchStill", spec := "batchStill", unfollowed := true, recurses := true, named := ["gavelhouse/api.ErrBound", "gavelhouse/api.ErrFull", "gavelhouse/api.ErrKind", "gavelhouse/api.ErrShape", "gavelhouse/api.ErrExist", "gavelhouse/api.ErrPoor", "gavelhouse/api.ErrNone", "gavelhouse/api.ErrOrder"], apart := false, laid := [("gavelhouse/api.ErrBound", laid_gavelhouse_api_ErrBound), ("gavelhouse/api.ErrShape", laid_gavelhouse_api_ErrShape), ("gavelhouse/api.ErrKind", laid_gavelhouse_api_ErrKind), ("gavelhouse/api.ErrNone", laid_gavelhouse_api_ErrNone), ("gavelhouse/api.ErrExist", laid_gavelhouse_api_ErrExist), ("gavelhouse/api.ErrFull", laid_gavelhouse_api_ErrFull), ("gavelhouse/api.ErrPoor", laid_gavelhouse_api_ErrPoor), ("gavelhouse/api.ErrOrder", laid_gavelhouse_api_ErrOrder)], narrowed := true }
def BatchStillUptoSaid : Prop := batchStillUptoRow.holds Tryd.pinned (OpenSpec.upto batchStillSpec)

/-- 'gavelhouselaw2.BatchAgain', WHERE WHAT IT READS IS OF BULK AT MOST 1048576: true; the input reads as it did. -/
def batchAgainUptoRow : OpenClaim := { program := "ytmbboflakfokhaadoor", sum := "3282ff2aec5cd40d8416cf0f801a730994192b572e95b8f35cf2f24702b0ca4d", func := "gavelhouse/gavelhouselaw2.BatchAgain", spec := "batchAgain", unfollowed := true, recurses := true, named := ["gavelhouse/api.ErrBound", "gavelhouse/api.ErrFull", "gavelhouse/api.ErrKind", "gavelhouse/api.ErrShape", "gavelhouse/api.ErrExist", "gavelhouse/api.ErrPoor", "gavelhouse/api.ErrNone", "gavelhouse/api.ErrOrder"], apart := false, laid := [("gavelhouse/api.ErrBound", laid_gavelhouse_api_ErrBound), ("gavelhouse/api.ErrShape", laid_gavelhouse_api_ErrShape), ("gavelhouse/api.ErrKind", laid_gavelhouse_api_ErrKind), ("gavelhouse/api.ErrNone", laid_gavelhouse_api_ErrNone), ("gavelhouse/api.ErrExist", laid_gavelhouse_api_ErrExist), ("gavelhouse/api.ErrFull", laid_gavelhouse_api_ErrFull), ("gavelhouse/api.ErrPoor", laid_gavelhouse_api_ErrPoor), ("gavelhouse/api.ErrOrder", laid_gavelhouse_api_ErrOrder)], narrowed := true }
def BatchAgainUptoSaid : Prop := batchAgainUptoRow.holds Tryd.pinned (OpenSpec.upto batchAgainSpec)

/-- 'gavelhouselaw2.BatchHolds', WHERE WHAT IT READS IS OF BULK AT MOST 1048576: true; the input reads as it did. -/
def batchHoldsUptoRow : OpenClaim := { program := "ytmbboflakfokhaadoor", sum := "3282ff2aec5cd40d8416cf0f801a730994192b572e95b8f35cf2f24702b0ca4d", func := "gavelhouse/gavelhouselaw2.BatchHolds", spec := "batchHolds", unfollowed := true, recurses := true, named := ["gavelhouse/api.ErrBound", "gavelhouse/api.ErrFull", "gavelhouse/api.ErrKind", "gavelhouse/api.ErrShape", "gavelhouse/api.ErrExist", "gavelhouse/api.ErrPoor", "gavelhouse/api.ErrNone", "gavelhouse/api.ErrOrder"], apart := false, laid := [("gavelhouse/api.ErrBound", laid_gavelhouse_api_ErrBound), ("gavelhouse/api.ErrShape", laid_gavelhouse_api_ErrShape), ("gavelhouse/api.ErrKind", laid_gavelhouse_api_ErrKind), ("gavelhouse/api.ErrNone", laid_gavelhouse_api_ErrNone), ("gavelhouse/api.ErrExist", laid_gavelhouse_api_ErrExist), ("gavelhouse/api.ErrFull", laid_gavelhouse_api_ErrFull), ("gavelhouse/api.ErrPoor", laid_gavelhouse_api_ErrPoor), ("gavelhouse/api.ErrOrder", laid_gavelhouse_api_ErrOrder)], narrowed := true }
def BatchHoldsUptoSaid : Prop := batchHoldsUptoRow.holds Tryd.pinned (OpenSpec.upto batchHoldsSpec)

end Rows
end Go.Proofs.YtmbboflakfokhaaDoor
