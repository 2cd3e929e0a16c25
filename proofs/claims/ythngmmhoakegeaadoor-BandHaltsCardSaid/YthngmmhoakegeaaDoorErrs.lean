/- What a row's list of package-level errors gives: each holds a pointer to a new error string. -/
import Derived.Test.YthngmmhoakegeaaDoorWorld
import Derived.Test.YthngmmhoakegeaaDoorCards
import Derived.Test.YthngmmhoakegeaaDoorTie
import Derived.ProofKit
import Derived.OpenShut
import Derived.Stop.LaidErr
import Derived.LaidMore
import Derived.MakeChecks
import Derived.Deep.DeepHandedRow
import Derived.Deep.DeepWitnessRowRef
namespace Go.Proofs.YthngmmhoakegeaaDoor
open Go.RowKit

theorem own : ownKnob Tryd.prog.godebug = none := by kernel_rfl
theorem rowErrStr : ∀ u, Tryd.prog.typeName? 3 u = some "*errors.errorString" → u = 114 :=
  typeName_ptr_named (nm := "errors.errorString") (by kernel_rfl) (by kernel_rfl) (by decide)
theorem cellsErrStr : Tryd.prog.cellsOf 116 = 1 := by kernel_rfl
theorem cellsStr : Tryd.prog.cellsOf 9 = 1 := by kernel_rfl

/-- The package-level error g holds an error string's address. -/
def ErrAt (w : World) (g : Nat) : Prop := ∃ a : Addr, w.cell? ⟨g, 0, none⟩ = some (.iface 114 (.pointer (some a)))

/-- The head of a list of errors. -/
theorem errAt_head {W : World} {n : String} {g : Nat} {text : List UInt8} {r : List (String × DataW Unit)} (h : laidMet Tryd.prog ((n, .iface "*errors.errorString" (.ptr (.agg [.lit (.string text)]))) :: r) W)
    (hg : Tryd.prog.globalNamed n = some g) (ht : (Tryd.prog.globals[g]?).map (·.type) = some 27) : ErrAt W g := by
  obtain ⟨a, s, hv, _⟩ := laid_sentinel h hg ht Tryd.underlying27 rowErrStr Tryd.underlying114 Tryd.underlying116 rfl rfl Tryd.underlying9 cellsErrStr cellsStr
  exact ⟨a, by simpa using World.var?_cell hg hv 0⟩
end Go.Proofs.YthngmmhoakegeaaDoor
