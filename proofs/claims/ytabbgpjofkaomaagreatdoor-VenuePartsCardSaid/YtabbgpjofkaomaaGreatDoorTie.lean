/-
  DERIVED. GIVEN WITH THE SEED: THE PROGRAM's TIES (one call each: nine closed facts by the kernel) AND EACH ROW's TIE, after the 31st guide's Derived/Test/Toyas{Tie, Card}.lean. No idea stands in it: it is a product of the set-up. Laid BY PROGRAM, IN A SANDBOX (cutbox-door.mjs). By AI agents, Wed Nov 11 2026. No macro, syntax, notation, axiom, sorry.
-/
import Derived.Test.YtabbgpjofkaomaaGreatDoorRows
import Derived.LaidByTextLater
import Derived.SevenTiedAt
import Derived.LaidSub
import Derived.LaidOnce
namespace Go.Proofs.YtabbgpjofkaomaaGreatDoor
open Go
set_option maxRecDepth 100000
theorem seatTie1 : Tryz.prog.laidByTextLater [("math/bits.deBruijn32tab", Rows.laid_math_bits_deBruijn32tab), ("math/bits.deBruijn64tab", Rows.laid_math_bits_deBruijn64tab), ("internal/strconv.uint64pow10", Rows.laid_internal_strconv_uint64pow10), ("errors.errorType", Rows.laid_errors_errorType), ("gavelhouse/api.ErrText", Rows.laid_gavelhouse_api_ErrText), ("gavelhouse/api.ErrBound", Rows.laid_gavelhouse_api_ErrBound), ("gavelhouse/api.ErrShape", Rows.laid_gavelhouse_api_ErrShape), ("gavelhouse/api.ErrKind", Rows.laid_gavelhouse_api_ErrKind), ("gavelhouse/api.ErrSum", Rows.laid_gavelhouse_api_ErrSum), ("gavelhouse/api.ErrNone", Rows.laid_gavelhouse_api_ErrNone), ("gavelhouse/api.ErrExist", Rows.laid_gavelhouse_api_ErrExist), ("gavelhouse/api.ErrFull", Rows.laid_gavelhouse_api_ErrFull), ("gavelhouse/api.ErrOff", Rows.laid_gavelhouse_api_ErrOff), ("gavelhouse/api.ErrPoor", Rows.laid_gavelhouse_api_ErrPoor), ("gavelhouse/api.ErrState", Rows.laid_gavelhouse_api_ErrState), ("gavelhouse/api.ErrOrder", Rows.laid_gavelhouse_api_ErrOrder)] [.data, .data, .data, .handle, .sentinel, .sentinel, .sentinel, .sentinel, .sentinel, .sentinel, .sentinel, .sentinel, .sentinel, .sentinel, .sentinel, .sentinel] true :=
  Program.laidByTextLater_by_one 259 8 65 (by kernel_rfl) (by kernel_rfl) (by kernel_rfl) (by kernel_rfl) (by kernel_rfl) (by kernel_rfl) (fun _ _ => by kernel_rfl)
theorem noOwnUnsafe : Tryz.pinned.checked.prog.headLifts.contains "ownunsafe" = false := by kernel_rfl
theorem tie : Tryz.prog.laidByTextLater [("math/bits.deBruijn32tab", Rows.laid_math_bits_deBruijn32tab), ("math/bits.deBruijn64tab", Rows.laid_math_bits_deBruijn64tab), ("internal/strconv.uint64pow10", Rows.laid_internal_strconv_uint64pow10), ("errors.errorType", Rows.laid_errors_errorType), ("gavelhouse/api.ErrText", Rows.laid_gavelhouse_api_ErrText), ("gavelhouse/api.ErrBound", Rows.laid_gavelhouse_api_ErrBound), ("gavelhouse/api.ErrShape", Rows.laid_gavelhouse_api_ErrShape), ("gavelhouse/api.ErrKind", Rows.laid_gavelhouse_api_ErrKind), ("gavelhouse/api.ErrSum", Rows.laid_gavelhouse_api_ErrSum), ("gavelhouse/api.ErrNone", Rows.laid_gavelhouse_api_ErrNone), ("gavelhouse/api.ErrExist", Rows.laid_gavelhouse_api_ErrExist), ("gavelhouse/api.ErrFull", Rows.laid_gavelhouse_api_ErrFull), ("gavelhouse/api.ErrOff", Rows.laid_gavelhouse_api_ErrOff), ("gavelhouse/api.ErrPoor", Rows.laid_gavelhouse_api_ErrPoor), ("gavelhouse/api.ErrState", Rows.laid_gavelhouse_api_ErrState), ("gavelhouse/api.ErrOrder", Rows.laid_gavelhouse_api_ErrOrder)] [.data, .data, .data, .handle, .sentinel, .sentinel, .sentinel, .sentinel, .sentinel, .sentinel, .sentinel, .sentinel, .sentinel, .sentinel, .sentinel, .sentinel] true :=
  Program.laidByTextLater.sub seatTie1 ["math/bits.deBruijn32tab", "math/bits.deBruijn64tab", "internal/strconv.uint64pow10", "errors.errorType", "gavelhouse/api.ErrText", "gavelhouse/api.ErrBound", "gavelhouse/api.ErrShape", "gavelhouse/api.ErrKind", "gavelhouse/api.ErrSum", "gavelhouse/api.ErrNone", "gavelhouse/api.ErrExist", "gavelhouse/api.ErrFull", "gavelhouse/api.ErrOff", "gavelhouse/api.ErrPoor", "gavelhouse/api.ErrState", "gavelhouse/api.ErrOrder"] (by kernel_rfl) (by kernel_rfl)
theorem venueTold_row_tie : Rows.venueToldRow.laidByTextAt .later Tryz.pinned [.data, .data, .data, .handle, .sentinel, .sentinel, .sentinel, .sentinel, .sentinel, .sentinel, .sentinel, .sentinel, .sentinel, .sentinel, .sentinel, .sentinel] true :=
  OpenClaim.laidByTextAt_later rfl rfl tie noOwnUnsafe
theorem venueParts_row_tie : Rows.venuePartsRow.laidByTextAt .later Tryz.pinned [.data, .data, .data, .handle, .sentinel, .sentinel, .sentinel, .sentinel, .sentinel, .sentinel, .sentinel, .sentinel, .sentinel, .sentinel, .sentinel, .sentinel] true :=
  OpenClaim.laidByTextAt_later rfl rfl tie noOwnUnsafe
theorem venueKeeps_row_tie : Rows.venueKeepsRow.laidByTextAt .later Tryz.pinned [.data, .data, .data, .handle, .sentinel, .sentinel, .sentinel, .sentinel, .sentinel, .sentinel, .sentinel, .sentinel, .sentinel, .sentinel, .sentinel, .sentinel] true :=
  OpenClaim.laidByTextAt_later rfl rfl tie noOwnUnsafe
theorem venueSteps_row_tie : Rows.venueStepsRow.laidByTextAt .later Tryz.pinned [.data, .data, .data, .handle, .sentinel, .sentinel, .sentinel, .sentinel, .sentinel, .sentinel, .sentinel, .sentinel, .sentinel, .sentinel, .sentinel, .sentinel] true :=
  OpenClaim.laidByTextAt_later rfl rfl tie noOwnUnsafe
theorem venueToldUpto_row_tie : Rows.venueToldUptoRow.laidByTextAt .later Tryz.pinned [.data, .data, .data, .handle, .sentinel, .sentinel, .sentinel, .sentinel, .sentinel, .sentinel, .sentinel, .sentinel, .sentinel, .sentinel, .sentinel, .sentinel] true :=
  OpenClaim.laidByTextAt_later rfl rfl tie noOwnUnsafe
theorem venuePartsUpto_row_tie : Rows.venuePartsUptoRow.laidByTextAt .later Tryz.pinned [.data, .data, .data, .handle, .sentinel, .sentinel, .sentinel, .sentinel, .sentinel, .sentinel, .sentinel, .sentinel, .sentinel, .sentinel, .sentinel, .sentinel] true :=
  OpenClaim.laidByTextAt_later rfl rfl tie noOwnUnsafe
theorem venueKeepsUpto_row_tie : Rows.venueKeepsUptoRow.laidByTextAt .later Tryz.pinned [.data, .data, .data, .handle, .sentinel, .sentinel, .sentinel, .sentinel, .sentinel, .sentinel, .sentinel, .sentinel, .sentinel, .sentinel, .sentinel, .sentinel] true :=
  OpenClaim.laidByTextAt_later rfl rfl tie noOwnUnsafe
theorem venueStepsUpto_row_tie : Rows.venueStepsUptoRow.laidByTextAt .later Tryz.pinned [.data, .data, .data, .handle, .sentinel, .sentinel, .sentinel, .sentinel, .sentinel, .sentinel, .sentinel, .sentinel, .sentinel, .sentinel, .sentinel, .sentinel] true :=
  OpenClaim.laidByTextAt_later rfl rfl tie noOwnUnsafe
end Go.Proofs.YtabbgpjofkaomaaGreatDoor
