/-
  DERIVED. GIVEN WITH THE SEED: THE PROGRAM's TIES (one call each: nine closed facts by the kernel) AND EACH ROW's TIE, after the 31st guide's Derived/Test/Toyas{Tie, Card}.lean. No idea stands in it: it is a product of the set-up. Laid BY PROGRAM, IN A SANDBOX (cutbox-door.mjs). By AI agents, Wed Nov 11 2026. No macro, syntax, notation, axiom, sorry.
-/
import Derived.Test.YtmbboflakfokhaaDoorRows
import Derived.LaidByTextLater
import Derived.SevenTiedAt
import Derived.LaidSub
import Derived.LaidOnce
namespace Go.Proofs.YtmbboflakfokhaaDoor
open Go
set_option maxRecDepth 100000
theorem seatTie1 : Tryd.prog.laidByTextLater [("gavelhouse/api.ErrBound", Rows.laid_gavelhouse_api_ErrBound), ("gavelhouse/api.ErrShape", Rows.laid_gavelhouse_api_ErrShape), ("gavelhouse/api.ErrKind", Rows.laid_gavelhouse_api_ErrKind), ("gavelhouse/api.ErrNone", Rows.laid_gavelhouse_api_ErrNone), ("gavelhouse/api.ErrExist", Rows.laid_gavelhouse_api_ErrExist), ("gavelhouse/api.ErrFull", Rows.laid_gavelhouse_api_ErrFull), ("gavelhouse/api.ErrPoor", Rows.laid_gavelhouse_api_ErrPoor), ("gavelhouse/api.ErrOrder", Rows.laid_gavelhouse_api_ErrOrder)] [.sentinel, .sentinel, .sentinel, .sentinel, .sentinel, .sentinel, .sentinel, .sentinel] true :=
  Program.laidByTextLater_by_one 161 8 2 (by kernel_rfl) (by kernel_rfl) (by kernel_rfl) (by kernel_rfl) (by kernel_rfl) (by kernel_rfl) (fun _ _ => by kernel_rfl)
theorem noOwnUnsafe : Tryd.pinned.checked.prog.headLifts.contains "ownunsafe" = false := by kernel_rfl
theorem tie : Tryd.prog.laidByTextLater [("gavelhouse/api.ErrBound", Rows.laid_gavelhouse_api_ErrBound), ("gavelhouse/api.ErrShape", Rows.laid_gavelhouse_api_ErrShape), ("gavelhouse/api.ErrKind", Rows.laid_gavelhouse_api_ErrKind), ("gavelhouse/api.ErrNone", Rows.laid_gavelhouse_api_ErrNone), ("gavelhouse/api.ErrExist", Rows.laid_gavelhouse_api_ErrExist), ("gavelhouse/api.ErrFull", Rows.laid_gavelhouse_api_ErrFull), ("gavelhouse/api.ErrPoor", Rows.laid_gavelhouse_api_ErrPoor), ("gavelhouse/api.ErrOrder", Rows.laid_gavelhouse_api_ErrOrder)] [.sentinel, .sentinel, .sentinel, .sentinel, .sentinel, .sentinel, .sentinel, .sentinel] true :=
  Program.laidByTextLater.sub seatTie1 ["gavelhouse/api.ErrBound", "gavelhouse/api.ErrShape", "gavelhouse/api.ErrKind", "gavelhouse/api.ErrNone", "gavelhouse/api.ErrExist", "gavelhouse/api.ErrFull", "gavelhouse/api.ErrPoor", "gavelhouse/api.ErrOrder"] (by kernel_rfl) (by kernel_rfl)
theorem batchFair_row_tie : Rows.batchFairRow.laidByTextAt .later Tryd.pinned [.sentinel, .sentinel, .sentinel, .sentinel, .sentinel, .sentinel, .sentinel, .sentinel] true :=
  OpenClaim.laidByTextAt_later rfl rfl tie noOwnUnsafe
theorem batchStill_row_tie : Rows.batchStillRow.laidByTextAt .later Tryd.pinned [.sentinel, .sentinel, .sentinel, .sentinel, .sentinel, .sentinel, .sentinel, .sentinel] true :=
  OpenClaim.laidByTextAt_later rfl rfl tie noOwnUnsafe
theorem batchAgain_row_tie : Rows.batchAgainRow.laidByTextAt .later Tryd.pinned [.sentinel, .sentinel, .sentinel, .sentinel, .sentinel, .sentinel, .sentinel, .sentinel] true :=
  OpenClaim.laidByTextAt_later rfl rfl tie noOwnUnsafe
theorem batchHolds_row_tie : Rows.batchHoldsRow.laidByTextAt .later Tryd.pinned [.sentinel, .sentinel, .sentinel, .sentinel, .sentinel, .sentinel, .sentinel, .sentinel] true :=
  OpenClaim.laidByTextAt_later rfl rfl tie noOwnUnsafe
theorem batchFairUpto_row_tie : Rows.batchFairUptoRow.laidByTextAt .later Tryd.pinned [.sentinel, .sentinel, .sentinel, .sentinel, .sentinel, .sentinel, .sentinel, .sentinel] true :=
  OpenClaim.laidByTextAt_later rfl rfl tie noOwnUnsafe
theorem batchStillUpto_row_tie : Rows.batchStillUptoRow.laidByTextAt .later Tryd.pinned [.sentinel, .sentinel, .sentinel, .sentinel, .sentinel, .sentinel, .sentinel, .sentinel] true :=
  OpenClaim.laidByTextAt_later rfl rfl tie noOwnUnsafe
theorem batchAgainUpto_row_tie : Rows.batchAgainUptoRow.laidByTextAt .later Tryd.pinned [.sentinel, .sentinel, .sentinel, .sentinel, .sentinel, .sentinel, .sentinel, .sentinel] true :=
  OpenClaim.laidByTextAt_later rfl rfl tie noOwnUnsafe
theorem batchHoldsUpto_row_tie : Rows.batchHoldsUptoRow.laidByTextAt .later Tryd.pinned [.sentinel, .sentinel, .sentinel, .sentinel, .sentinel, .sentinel, .sentinel, .sentinel] true :=
  OpenClaim.laidByTextAt_later rfl rfl tie noOwnUnsafe
end Go.Proofs.YtmbboflakfokhaaDoor
