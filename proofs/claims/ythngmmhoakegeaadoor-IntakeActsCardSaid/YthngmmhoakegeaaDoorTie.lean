/-
  DERIVED. GIVEN WITH THE SEED: THE PROGRAM's TIES (one call each: nine closed facts by the kernel) AND EACH ROW's TIE, after the 31st guide's Derived/Test/Toyas{Tie, Card}.lean. No idea stands in it: it is a product of the set-up. Laid BY PROGRAM, IN A SANDBOX (cutbox-door.mjs). By AI agents, Wed Nov 11 2026. No macro, syntax, notation, axiom, sorry.
-/
import Derived.Test.YthngmmhoakegeaaDoorRows
import Derived.LaidByTextLater
import Derived.SevenTiedAt
import Derived.LaidSub
import Derived.LaidOnce
namespace Go.Proofs.YthngmmhoakegeaaDoor
open Go
set_option maxRecDepth 100000
theorem seatTie1 : Tryd.prog.laidByTextLater [("errors.errorType", Rows.laid_errors_errorType), ("gavelhouse/api.ErrText", Rows.laid_gavelhouse_api_ErrText), ("gavelhouse/api.ErrBound", Rows.laid_gavelhouse_api_ErrBound), ("gavelhouse/api.ErrShape", Rows.laid_gavelhouse_api_ErrShape), ("gavelhouse/api.ErrKind", Rows.laid_gavelhouse_api_ErrKind), ("gavelhouse/api.ErrSum", Rows.laid_gavelhouse_api_ErrSum), ("gavelhouse/api.ErrNone", Rows.laid_gavelhouse_api_ErrNone), ("gavelhouse/api.ErrExist", Rows.laid_gavelhouse_api_ErrExist), ("gavelhouse/api.ErrFull", Rows.laid_gavelhouse_api_ErrFull), ("gavelhouse/api.ErrOff", Rows.laid_gavelhouse_api_ErrOff), ("gavelhouse/api.ErrPoor", Rows.laid_gavelhouse_api_ErrPoor), ("gavelhouse/api.ErrState", Rows.laid_gavelhouse_api_ErrState), ("gavelhouse/api.ErrOrder", Rows.laid_gavelhouse_api_ErrOrder)] [.handle, .sentinel, .sentinel, .sentinel, .sentinel, .sentinel, .sentinel, .sentinel, .sentinel, .sentinel, .sentinel, .sentinel, .sentinel] true :=
  Program.laidByTextLater_by_one 244 8 2 (by kernel_rfl) (by kernel_rfl) (by kernel_rfl) (by kernel_rfl) (by kernel_rfl) (by kernel_rfl) (fun _ _ => by kernel_rfl)
theorem noOwnUnsafe : Tryd.pinned.checked.prog.headLifts.contains "ownunsafe" = false := by kernel_rfl
theorem tie : Tryd.prog.laidByTextLater [("gavelhouse/api.ErrBound", Rows.laid_gavelhouse_api_ErrBound), ("gavelhouse/api.ErrKind", Rows.laid_gavelhouse_api_ErrKind), ("gavelhouse/api.ErrFull", Rows.laid_gavelhouse_api_ErrFull)] [.sentinel, .sentinel, .sentinel] true :=
  Program.laidByTextLater.sub seatTie1 ["gavelhouse/api.ErrBound", "gavelhouse/api.ErrKind", "gavelhouse/api.ErrFull"] (by kernel_rfl) (by kernel_rfl)
theorem intakeWaits_row_tie : Rows.intakeWaitsRow.laidByTextAt .later Tryd.pinned [.sentinel, .sentinel, .sentinel] true :=
  OpenClaim.laidByTextAt_later rfl rfl tie noOwnUnsafe
theorem intakeKeeps_row_tie : Rows.intakeKeepsRow.laidByTextAt .later Tryd.pinned [.sentinel, .sentinel, .sentinel] true :=
  OpenClaim.laidByTextAt_later rfl rfl tie noOwnUnsafe
theorem tie2 : Tryd.prog.laidByTextLater [("gavelhouse/api.ErrBound", Rows.laid_gavelhouse_api_ErrBound)] [.sentinel] true :=
  Program.laidByTextLater.sub seatTie1 ["gavelhouse/api.ErrBound"] (by kernel_rfl) (by kernel_rfl)
theorem bandHalts_row_tie : Rows.bandHaltsRow.laidByTextAt .later Tryd.pinned [.sentinel] true :=
  OpenClaim.laidByTextAt_later rfl rfl tie2 noOwnUnsafe
theorem tie3 : Tryd.prog.laidByTextLater [("gavelhouse/api.ErrBound", Rows.laid_gavelhouse_api_ErrBound), ("gavelhouse/api.ErrShape", Rows.laid_gavelhouse_api_ErrShape), ("gavelhouse/api.ErrKind", Rows.laid_gavelhouse_api_ErrKind)] [.sentinel, .sentinel, .sentinel] true :=
  Program.laidByTextLater.sub seatTie1 ["gavelhouse/api.ErrBound", "gavelhouse/api.ErrShape", "gavelhouse/api.ErrKind"] (by kernel_rfl) (by kernel_rfl)
theorem wireApart_row_tie : Rows.wireApartRow.laidByTextAt .later Tryd.pinned [.sentinel, .sentinel, .sentinel] true :=
  OpenClaim.laidByTextAt_later rfl rfl tie3 noOwnUnsafe
theorem tie4 : Tryd.prog.laidByTextLater [("gavelhouse/api.ErrBound", Rows.laid_gavelhouse_api_ErrBound), ("gavelhouse/api.ErrShape", Rows.laid_gavelhouse_api_ErrShape), ("gavelhouse/api.ErrKind", Rows.laid_gavelhouse_api_ErrKind), ("gavelhouse/api.ErrState", Rows.laid_gavelhouse_api_ErrState), ("gavelhouse/api.ErrOrder", Rows.laid_gavelhouse_api_ErrOrder)] [.sentinel, .sentinel, .sentinel, .sentinel, .sentinel] true :=
  Program.laidByTextLater.sub seatTie1 ["gavelhouse/api.ErrBound", "gavelhouse/api.ErrShape", "gavelhouse/api.ErrKind", "gavelhouse/api.ErrState", "gavelhouse/api.ErrOrder"] (by kernel_rfl) (by kernel_rfl)
theorem sessionRises_row_tie : Rows.sessionRisesRow.laidByTextAt .later Tryd.pinned [.sentinel, .sentinel, .sentinel, .sentinel, .sentinel] true :=
  OpenClaim.laidByTextAt_later rfl rfl tie4 noOwnUnsafe
theorem tie5 : Tryd.prog.laidByTextLater [("errors.errorType", Rows.laid_errors_errorType), ("gavelhouse/api.ErrText", Rows.laid_gavelhouse_api_ErrText), ("gavelhouse/api.ErrBound", Rows.laid_gavelhouse_api_ErrBound), ("gavelhouse/api.ErrShape", Rows.laid_gavelhouse_api_ErrShape), ("gavelhouse/api.ErrKind", Rows.laid_gavelhouse_api_ErrKind), ("gavelhouse/api.ErrSum", Rows.laid_gavelhouse_api_ErrSum), ("gavelhouse/api.ErrNone", Rows.laid_gavelhouse_api_ErrNone), ("gavelhouse/api.ErrExist", Rows.laid_gavelhouse_api_ErrExist), ("gavelhouse/api.ErrFull", Rows.laid_gavelhouse_api_ErrFull), ("gavelhouse/api.ErrOff", Rows.laid_gavelhouse_api_ErrOff), ("gavelhouse/api.ErrPoor", Rows.laid_gavelhouse_api_ErrPoor), ("gavelhouse/api.ErrState", Rows.laid_gavelhouse_api_ErrState), ("gavelhouse/api.ErrOrder", Rows.laid_gavelhouse_api_ErrOrder)] [.handle, .sentinel, .sentinel, .sentinel, .sentinel, .sentinel, .sentinel, .sentinel, .sentinel, .sentinel, .sentinel, .sentinel, .sentinel] true :=
  Program.laidByTextLater.sub seatTie1 ["errors.errorType", "gavelhouse/api.ErrText", "gavelhouse/api.ErrBound", "gavelhouse/api.ErrShape", "gavelhouse/api.ErrKind", "gavelhouse/api.ErrSum", "gavelhouse/api.ErrNone", "gavelhouse/api.ErrExist", "gavelhouse/api.ErrFull", "gavelhouse/api.ErrOff", "gavelhouse/api.ErrPoor", "gavelhouse/api.ErrState", "gavelhouse/api.ErrOrder"] (by kernel_rfl) (by kernel_rfl)
theorem names_row_tie : Rows.namesRow.laidByTextAt .later Tryd.pinned [.handle, .sentinel, .sentinel, .sentinel, .sentinel, .sentinel, .sentinel, .sentinel, .sentinel, .sentinel, .sentinel, .sentinel, .sentinel] true :=
  OpenClaim.laidByTextAt_later rfl rfl tie5 noOwnUnsafe
theorem bandNext_row_tie : Rows.bandNextRow.laidByTextAt .later Tryd.pinned [.handle, .sentinel, .sentinel, .sentinel, .sentinel, .sentinel, .sentinel, .sentinel, .sentinel, .sentinel, .sentinel, .sentinel, .sentinel] true :=
  OpenClaim.laidByTextAt_later rfl rfl tie5 noOwnUnsafe
theorem intakeActs_row_tie : Rows.intakeActsRow.laidByTextAt .later Tryd.pinned [.handle, .sentinel, .sentinel, .sentinel, .sentinel, .sentinel, .sentinel, .sentinel, .sentinel, .sentinel, .sentinel, .sentinel, .sentinel] true :=
  OpenClaim.laidByTextAt_later rfl rfl tie5 noOwnUnsafe
theorem sessionTakes_row_tie : Rows.sessionTakesRow.laidByTextAt .later Tryd.pinned [.handle, .sentinel, .sentinel, .sentinel, .sentinel, .sentinel, .sentinel, .sentinel, .sentinel, .sentinel, .sentinel, .sentinel, .sentinel] true :=
  OpenClaim.laidByTextAt_later rfl rfl tie5 noOwnUnsafe
theorem wireFrames_row_tie : Rows.wireFramesRow.laidByTextAt .later Tryd.pinned [.handle, .sentinel, .sentinel, .sentinel, .sentinel, .sentinel, .sentinel, .sentinel, .sentinel, .sentinel, .sentinel, .sentinel, .sentinel] true :=
  OpenClaim.laidByTextAt_later rfl rfl tie5 noOwnUnsafe
theorem wireBursts_row_tie : Rows.wireBurstsRow.laidByTextAt .later Tryd.pinned [.handle, .sentinel, .sentinel, .sentinel, .sentinel, .sentinel, .sentinel, .sentinel, .sentinel, .sentinel, .sentinel, .sentinel, .sentinel] true :=
  OpenClaim.laidByTextAt_later rfl rfl tie5 noOwnUnsafe
theorem wireStreams_row_tie : Rows.wireStreamsRow.laidByTextAt .later Tryd.pinned [.handle, .sentinel, .sentinel, .sentinel, .sentinel, .sentinel, .sentinel, .sentinel, .sentinel, .sentinel, .sentinel, .sentinel, .sentinel] true :=
  OpenClaim.laidByTextAt_later rfl rfl tie5 noOwnUnsafe
theorem intakeWaitsUpto_row_tie : Rows.intakeWaitsUptoRow.laidByTextAt .later Tryd.pinned [.sentinel, .sentinel, .sentinel] true :=
  OpenClaim.laidByTextAt_later rfl rfl tie noOwnUnsafe
theorem bandHaltsUpto_row_tie : Rows.bandHaltsUptoRow.laidByTextAt .later Tryd.pinned [.sentinel] true :=
  OpenClaim.laidByTextAt_later rfl rfl tie2 noOwnUnsafe
theorem intakeKeepsUpto_row_tie : Rows.intakeKeepsUptoRow.laidByTextAt .later Tryd.pinned [.sentinel, .sentinel, .sentinel] true :=
  OpenClaim.laidByTextAt_later rfl rfl tie noOwnUnsafe
theorem wireApartUpto_row_tie : Rows.wireApartUptoRow.laidByTextAt .later Tryd.pinned [.sentinel, .sentinel, .sentinel] true :=
  OpenClaim.laidByTextAt_later rfl rfl tie3 noOwnUnsafe
theorem sessionRisesUpto_row_tie : Rows.sessionRisesUptoRow.laidByTextAt .later Tryd.pinned [.sentinel, .sentinel, .sentinel, .sentinel, .sentinel] true :=
  OpenClaim.laidByTextAt_later rfl rfl tie4 noOwnUnsafe
theorem namesUpto_row_tie : Rows.namesUptoRow.laidByTextAt .later Tryd.pinned [.handle, .sentinel, .sentinel, .sentinel, .sentinel, .sentinel, .sentinel, .sentinel, .sentinel, .sentinel, .sentinel, .sentinel, .sentinel] true :=
  OpenClaim.laidByTextAt_later rfl rfl tie5 noOwnUnsafe
theorem bandNextUpto_row_tie : Rows.bandNextUptoRow.laidByTextAt .later Tryd.pinned [.handle, .sentinel, .sentinel, .sentinel, .sentinel, .sentinel, .sentinel, .sentinel, .sentinel, .sentinel, .sentinel, .sentinel, .sentinel] true :=
  OpenClaim.laidByTextAt_later rfl rfl tie5 noOwnUnsafe
theorem intakeActsUpto_row_tie : Rows.intakeActsUptoRow.laidByTextAt .later Tryd.pinned [.handle, .sentinel, .sentinel, .sentinel, .sentinel, .sentinel, .sentinel, .sentinel, .sentinel, .sentinel, .sentinel, .sentinel, .sentinel] true :=
  OpenClaim.laidByTextAt_later rfl rfl tie5 noOwnUnsafe
theorem sessionTakesUpto_row_tie : Rows.sessionTakesUptoRow.laidByTextAt .later Tryd.pinned [.handle, .sentinel, .sentinel, .sentinel, .sentinel, .sentinel, .sentinel, .sentinel, .sentinel, .sentinel, .sentinel, .sentinel, .sentinel] true :=
  OpenClaim.laidByTextAt_later rfl rfl tie5 noOwnUnsafe
theorem wireFramesUpto_row_tie : Rows.wireFramesUptoRow.laidByTextAt .later Tryd.pinned [.handle, .sentinel, .sentinel, .sentinel, .sentinel, .sentinel, .sentinel, .sentinel, .sentinel, .sentinel, .sentinel, .sentinel, .sentinel] true :=
  OpenClaim.laidByTextAt_later rfl rfl tie5 noOwnUnsafe
theorem wireBurstsUpto_row_tie : Rows.wireBurstsUptoRow.laidByTextAt .later Tryd.pinned [.handle, .sentinel, .sentinel, .sentinel, .sentinel, .sentinel, .sentinel, .sentinel, .sentinel, .sentinel, .sentinel, .sentinel, .sentinel] true :=
  OpenClaim.laidByTextAt_later rfl rfl tie5 noOwnUnsafe
theorem wireStreamsUpto_row_tie : Rows.wireStreamsUptoRow.laidByTextAt .later Tryd.pinned [.handle, .sentinel, .sentinel, .sentinel, .sentinel, .sentinel, .sentinel, .sentinel, .sentinel, .sentinel, .sentinel, .sentinel, .sentinel] true :=
  OpenClaim.laidByTextAt_later rfl rfl tie5 noOwnUnsafe
end Go.Proofs.YthngmmhoakegeaaDoor
