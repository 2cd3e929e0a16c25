/-
  DERIVED. GIVEN WITH THE SEED: THE PROGRAM's TIES (one call each: nine closed facts by the kernel) AND EACH ROW's TIE, after the 31st guide's Derived/Test/Toyas{Tie, Card}.lean. No idea stands in it: it is a product of the set-up. Laid BY PROGRAM, IN A SANDBOX (cutbox-door.mjs). By AI agents, Wed Nov 11 2026. No macro, syntax, notation, axiom, sorry.
-/
import Derived.Test.YtjkaeiioofknoaaDoorRows
import Derived.LaidByTextLater
import Derived.SevenTiedAt
import Derived.LaidSub
import Derived.LaidOnce
namespace Go.Proofs.YtjkaeiioofknoaaDoor
open Go
set_option maxRecDepth 100000
theorem seatTie1 : Tryd.prog.laidByTextLater [("errors.errorType", Rows.laid_errors_errorType), ("gavelhouse/api.ErrText", Rows.laid_gavelhouse_api_ErrText), ("gavelhouse/api.ErrBound", Rows.laid_gavelhouse_api_ErrBound), ("gavelhouse/api.ErrShape", Rows.laid_gavelhouse_api_ErrShape), ("gavelhouse/api.ErrKind", Rows.laid_gavelhouse_api_ErrKind), ("gavelhouse/api.ErrSum", Rows.laid_gavelhouse_api_ErrSum), ("gavelhouse/api.ErrNone", Rows.laid_gavelhouse_api_ErrNone), ("gavelhouse/api.ErrExist", Rows.laid_gavelhouse_api_ErrExist), ("gavelhouse/api.ErrFull", Rows.laid_gavelhouse_api_ErrFull), ("gavelhouse/api.ErrOff", Rows.laid_gavelhouse_api_ErrOff), ("gavelhouse/api.ErrPoor", Rows.laid_gavelhouse_api_ErrPoor), ("gavelhouse/api.ErrState", Rows.laid_gavelhouse_api_ErrState), ("gavelhouse/api.ErrOrder", Rows.laid_gavelhouse_api_ErrOrder)] [.handle, .sentinel, .sentinel, .sentinel, .sentinel, .sentinel, .sentinel, .sentinel, .sentinel, .sentinel, .sentinel, .sentinel, .sentinel] true :=
  Program.laidByTextLater_by_one 244 8 2 (by kernel_rfl) (by kernel_rfl) (by kernel_rfl) (by kernel_rfl) (by kernel_rfl) (by kernel_rfl) (fun _ _ => by kernel_rfl)
theorem noOwnUnsafe : Tryd.pinned.checked.prog.headLifts.contains "ownunsafe" = false := by kernel_rfl
theorem tie : Tryd.prog.laidByTextLater [("gavelhouse/api.ErrBound", Rows.laid_gavelhouse_api_ErrBound), ("gavelhouse/api.ErrExist", Rows.laid_gavelhouse_api_ErrExist), ("gavelhouse/api.ErrFull", Rows.laid_gavelhouse_api_ErrFull)] [.sentinel, .sentinel, .sentinel] true :=
  Program.laidByTextLater.sub seatTie1 ["gavelhouse/api.ErrBound", "gavelhouse/api.ErrExist", "gavelhouse/api.ErrFull"] (by kernel_rfl) (by kernel_rfl)
theorem curveAdds_row_tie : Rows.curveAddsRow.laidByTextAt .later Tryd.pinned [.sentinel, .sentinel, .sentinel] true :=
  OpenClaim.laidByTextAt_later rfl rfl tie noOwnUnsafe
theorem clearShifts_row_tie : Rows.clearShiftsRow.laidByTextAt .later Tryd.pinned [.sentinel, .sentinel, .sentinel] true :=
  OpenClaim.laidByTextAt_later rfl rfl tie noOwnUnsafe
theorem clearBest_row_tie : Rows.clearBestRow.laidByTextAt .later Tryd.pinned [.sentinel, .sentinel, .sentinel] true :=
  OpenClaim.laidByTextAt_later rfl rfl tie noOwnUnsafe
theorem curveFalls_row_tie : Rows.curveFallsRow.laidByTextAt .later Tryd.pinned [.sentinel, .sentinel, .sentinel] true :=
  OpenClaim.laidByTextAt_later rfl rfl tie noOwnUnsafe
theorem tie2 : Tryd.prog.laidByTextLater [("errors.errorType", Rows.laid_errors_errorType), ("gavelhouse/api.ErrText", Rows.laid_gavelhouse_api_ErrText), ("gavelhouse/api.ErrBound", Rows.laid_gavelhouse_api_ErrBound), ("gavelhouse/api.ErrShape", Rows.laid_gavelhouse_api_ErrShape), ("gavelhouse/api.ErrKind", Rows.laid_gavelhouse_api_ErrKind), ("gavelhouse/api.ErrSum", Rows.laid_gavelhouse_api_ErrSum), ("gavelhouse/api.ErrNone", Rows.laid_gavelhouse_api_ErrNone), ("gavelhouse/api.ErrExist", Rows.laid_gavelhouse_api_ErrExist), ("gavelhouse/api.ErrFull", Rows.laid_gavelhouse_api_ErrFull), ("gavelhouse/api.ErrOff", Rows.laid_gavelhouse_api_ErrOff), ("gavelhouse/api.ErrPoor", Rows.laid_gavelhouse_api_ErrPoor), ("gavelhouse/api.ErrState", Rows.laid_gavelhouse_api_ErrState), ("gavelhouse/api.ErrOrder", Rows.laid_gavelhouse_api_ErrOrder)] [.handle, .sentinel, .sentinel, .sentinel, .sentinel, .sentinel, .sentinel, .sentinel, .sentinel, .sentinel, .sentinel, .sentinel, .sentinel] true :=
  Program.laidByTextLater.sub seatTie1 ["errors.errorType", "gavelhouse/api.ErrText", "gavelhouse/api.ErrBound", "gavelhouse/api.ErrShape", "gavelhouse/api.ErrKind", "gavelhouse/api.ErrSum", "gavelhouse/api.ErrNone", "gavelhouse/api.ErrExist", "gavelhouse/api.ErrFull", "gavelhouse/api.ErrOff", "gavelhouse/api.ErrPoor", "gavelhouse/api.ErrState", "gavelhouse/api.ErrOrder"] (by kernel_rfl) (by kernel_rfl)
theorem clearPrices_row_tie : Rows.clearPricesRow.laidByTextAt .later Tryd.pinned [.handle, .sentinel, .sentinel, .sentinel, .sentinel, .sentinel, .sentinel, .sentinel, .sentinel, .sentinel, .sentinel, .sentinel, .sentinel] true :=
  OpenClaim.laidByTextAt_later rfl rfl tie2 noOwnUnsafe
theorem curveTells_row_tie : Rows.curveTellsRow.laidByTextAt .later Tryd.pinned [.handle, .sentinel, .sentinel, .sentinel, .sentinel, .sentinel, .sentinel, .sentinel, .sentinel, .sentinel, .sentinel, .sentinel, .sentinel] true :=
  OpenClaim.laidByTextAt_later rfl rfl tie2 noOwnUnsafe
theorem rationFills_row_tie : Rows.rationFillsRow.laidByTextAt .later Tryd.pinned [.handle, .sentinel, .sentinel, .sentinel, .sentinel, .sentinel, .sentinel, .sentinel, .sentinel, .sentinel, .sentinel, .sentinel, .sentinel] true :=
  OpenClaim.laidByTextAt_later rfl rfl tie2 noOwnUnsafe
theorem tie3 : Tryd.prog.laidByTextLater [("gavelhouse/api.ErrBound", Rows.laid_gavelhouse_api_ErrBound), ("gavelhouse/api.ErrShape", Rows.laid_gavelhouse_api_ErrShape), ("gavelhouse/api.ErrExist", Rows.laid_gavelhouse_api_ErrExist), ("gavelhouse/api.ErrFull", Rows.laid_gavelhouse_api_ErrFull)] [.sentinel, .sentinel, .sentinel, .sentinel] true :=
  Program.laidByTextLater.sub seatTie1 ["gavelhouse/api.ErrBound", "gavelhouse/api.ErrShape", "gavelhouse/api.ErrExist", "gavelhouse/api.ErrFull"] (by kernel_rfl) (by kernel_rfl)
theorem rationFair_row_tie : Rows.rationFairRow.laidByTextAt .later Tryd.pinned [.sentinel, .sentinel, .sentinel, .sentinel] true :=
  OpenClaim.laidByTextAt_later rfl rfl tie3 noOwnUnsafe
theorem rationSame_row_tie : Rows.rationSameRow.laidByTextAt .later Tryd.pinned [.sentinel, .sentinel, .sentinel, .sentinel] true :=
  OpenClaim.laidByTextAt_later rfl rfl tie3 noOwnUnsafe
theorem rationStreams_row_tie : Rows.rationStreamsRow.laidByTextAt .later Tryd.pinned [.sentinel, .sentinel, .sentinel, .sentinel] true :=
  OpenClaim.laidByTextAt_later rfl rfl tie3 noOwnUnsafe
theorem curveAddsUpto_row_tie : Rows.curveAddsUptoRow.laidByTextAt .later Tryd.pinned [.sentinel, .sentinel, .sentinel] true :=
  OpenClaim.laidByTextAt_later rfl rfl tie noOwnUnsafe
theorem clearShiftsUpto_row_tie : Rows.clearShiftsUptoRow.laidByTextAt .later Tryd.pinned [.sentinel, .sentinel, .sentinel] true :=
  OpenClaim.laidByTextAt_later rfl rfl tie noOwnUnsafe
theorem clearBestUpto_row_tie : Rows.clearBestUptoRow.laidByTextAt .later Tryd.pinned [.sentinel, .sentinel, .sentinel] true :=
  OpenClaim.laidByTextAt_later rfl rfl tie noOwnUnsafe
theorem clearPricesUpto_row_tie : Rows.clearPricesUptoRow.laidByTextAt .later Tryd.pinned [.handle, .sentinel, .sentinel, .sentinel, .sentinel, .sentinel, .sentinel, .sentinel, .sentinel, .sentinel, .sentinel, .sentinel, .sentinel] true :=
  OpenClaim.laidByTextAt_later rfl rfl tie2 noOwnUnsafe
theorem curveFallsUpto_row_tie : Rows.curveFallsUptoRow.laidByTextAt .later Tryd.pinned [.sentinel, .sentinel, .sentinel] true :=
  OpenClaim.laidByTextAt_later rfl rfl tie noOwnUnsafe
theorem rationFairUpto_row_tie : Rows.rationFairUptoRow.laidByTextAt .later Tryd.pinned [.sentinel, .sentinel, .sentinel, .sentinel] true :=
  OpenClaim.laidByTextAt_later rfl rfl tie3 noOwnUnsafe
theorem rationSameUpto_row_tie : Rows.rationSameUptoRow.laidByTextAt .later Tryd.pinned [.sentinel, .sentinel, .sentinel, .sentinel] true :=
  OpenClaim.laidByTextAt_later rfl rfl tie3 noOwnUnsafe
theorem rationStreamsUpto_row_tie : Rows.rationStreamsUptoRow.laidByTextAt .later Tryd.pinned [.sentinel, .sentinel, .sentinel, .sentinel] true :=
  OpenClaim.laidByTextAt_later rfl rfl tie3 noOwnUnsafe
theorem curveTellsUpto_row_tie : Rows.curveTellsUptoRow.laidByTextAt .later Tryd.pinned [.handle, .sentinel, .sentinel, .sentinel, .sentinel, .sentinel, .sentinel, .sentinel, .sentinel, .sentinel, .sentinel, .sentinel, .sentinel] true :=
  OpenClaim.laidByTextAt_later rfl rfl tie2 noOwnUnsafe
theorem rationFillsUpto_row_tie : Rows.rationFillsUptoRow.laidByTextAt .later Tryd.pinned [.handle, .sentinel, .sentinel, .sentinel, .sentinel, .sentinel, .sentinel, .sentinel, .sentinel, .sentinel, .sentinel, .sentinel, .sentinel] true :=
  OpenClaim.laidByTextAt_later rfl rfl tie2 noOwnUnsafe
end Go.Proofs.YtjkaeiioofknoaaDoor
