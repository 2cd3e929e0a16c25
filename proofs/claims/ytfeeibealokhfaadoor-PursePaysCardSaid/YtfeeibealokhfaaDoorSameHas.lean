/- The statements' sameHas, at one and the same. -/
import Derived.Test.YtfeeibealokhfaaDoorEqHas
set_option linter.unusedSimpArgs false
set_option linter.unusedVariables false
namespace Go.Proofs.YtfeeibealokhfaaDoor
open Go.RowKit

theorem eqTri3 (x y z : Int) (w : World) : (binOp .eql 28 (.agg #[.int .i64 x, .int .i64 y, .int .i64 z]) (.agg #[.int .i64 x, .int .i64 y, .int .i64 z])).run Tryd.prog w = .ok (.bool true) w := by
  have h := equalInTri 9998 x y z x y z w
  rw [run_eql_struct, h]
  simp
set_option maxRecDepth 100000 in
theorem sameHas_same (P : Pu) (c : Nat) (w : World) : Calls Tryd.prog 47 #[hasV P c, hasV P c] w fun e w' => e = .returned (.bool true) ∧ Ex w w' := by
  have h1 := fun w => eqTri3 (P c 2) (P c 3) (P c 4) w
  have h2 := fun w => eqTri3 (P c 5) (P c 6) (P c 7) w
  go_enter Tryd.func47, Tryd.ntmps47
  go_wp2
  all_goals go_ret
  all_goals exact ⟨rfl, (by repeat (first | exact Ex.refl _ | refine Ex.alloc ?_ _ | refine Ex.ext ?_ _ _ | refine Ex.drew ?_ | refine Ex.drewN ?_ _))⟩
end Go.Proofs.YtfeeibealokhfaaDoor
