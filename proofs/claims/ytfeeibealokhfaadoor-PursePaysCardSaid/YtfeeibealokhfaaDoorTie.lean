/-
  DERIVED. GIVEN WITH THE SEED: THE PROGRAM's TIES (one call each: nine closed facts by the kernel) AND EACH ROW's TIE, after the 31st guide's Derived/Test/Toyas{Tie, Card}.lean. No idea stands in it: it is a product of the set-up. Laid BY PROGRAM, IN A SANDBOX (cutbox-door.mjs). By AI agents, Wed Nov 11 2026. No macro, syntax, notation, axiom, sorry.
-/
import Derived.Test.YtfeeibealokhfaaDoorRows
import Derived.LaidByTextLater
import Derived.SevenTiedAt
import Derived.LaidSub
import Derived.LaidOnce
namespace Go.Proofs.YtfeeibealokhfaaDoor
open Go
set_option maxRecDepth 100000
theorem seatTie1 : Tryd.prog.laidByTextLater [("errors.errorType", Rows.laid_errors_errorType), ("gavelhouse/api.ErrText", Rows.laid_gavelhouse_api_ErrText), ("gavelhouse/api.ErrBound", Rows.laid_gavelhouse_api_ErrBound), ("gavelhouse/api.ErrShape", Rows.laid_gavelhouse_api_ErrShape), ("gavelhouse/api.ErrKind", Rows.laid_gavelhouse_api_ErrKind), ("gavelhouse/api.ErrSum", Rows.laid_gavelhouse_api_ErrSum), ("gavelhouse/api.ErrNone", Rows.laid_gavelhouse_api_ErrNone), ("gavelhouse/api.ErrExist", Rows.laid_gavelhouse_api_ErrExist), ("gavelhouse/api.ErrFull", Rows.laid_gavelhouse_api_ErrFull), ("gavelhouse/api.ErrOff", Rows.laid_gavelhouse_api_ErrOff), ("gavelhouse/api.ErrPoor", Rows.laid_gavelhouse_api_ErrPoor), ("gavelhouse/api.ErrState", Rows.laid_gavelhouse_api_ErrState), ("gavelhouse/api.ErrOrder", Rows.laid_gavelhouse_api_ErrOrder)] [.handle, .sentinel, .sentinel, .sentinel, .sentinel, .sentinel, .sentinel, .sentinel, .sentinel, .sentinel, .sentinel, .sentinel, .sentinel] true :=
  Program.laidByTextLater_by_one 244 8 2 (by kernel_rfl) (by kernel_rfl) (by kernel_rfl) (by kernel_rfl) (by kernel_rfl) (by kernel_rfl) (fun _ _ => by kernel_rfl)
theorem noOwnUnsafe : Tryd.pinned.checked.prog.headLifts.contains "ownunsafe" = false := by kernel_rfl
theorem tie : Tryd.prog.laidByTextLater [("gavelhouse/api.ErrBound", Rows.laid_gavelhouse_api_ErrBound), ("gavelhouse/api.ErrFull", Rows.laid_gavelhouse_api_ErrFull), ("gavelhouse/api.ErrPoor", Rows.laid_gavelhouse_api_ErrPoor)] [.sentinel, .sentinel, .sentinel] true :=
  Program.laidByTextLater.sub seatTie1 ["gavelhouse/api.ErrBound", "gavelhouse/api.ErrFull", "gavelhouse/api.ErrPoor"] (by kernel_rfl) (by kernel_rfl)
theorem purseBack_row_tie : Rows.purseBackRow.laidByTextAt .later Tryd.pinned [.sentinel, .sentinel, .sentinel] true :=
  OpenClaim.laidByTextAt_later rfl rfl tie noOwnUnsafe
theorem tie2 : Tryd.prog.laidByTextLater [("gavelhouse/api.ErrBound", Rows.laid_gavelhouse_api_ErrBound), ("gavelhouse/api.ErrShape", Rows.laid_gavelhouse_api_ErrShape), ("gavelhouse/api.ErrFull", Rows.laid_gavelhouse_api_ErrFull), ("gavelhouse/api.ErrOff", Rows.laid_gavelhouse_api_ErrOff)] [.sentinel, .sentinel, .sentinel, .sentinel] true :=
  Program.laidByTextLater.sub seatTie1 ["gavelhouse/api.ErrBound", "gavelhouse/api.ErrShape", "gavelhouse/api.ErrFull", "gavelhouse/api.ErrOff"] (by kernel_rfl) (by kernel_rfl)
theorem tapeReads_row_tie : Rows.tapeReadsRow.laidByTextAt .later Tryd.pinned [.sentinel, .sentinel, .sentinel, .sentinel] true :=
  OpenClaim.laidByTextAt_later rfl rfl tie2 noOwnUnsafe
theorem tapeCuts_row_tie : Rows.tapeCutsRow.laidByTextAt .later Tryd.pinned [.sentinel, .sentinel, .sentinel, .sentinel] true :=
  OpenClaim.laidByTextAt_later rfl rfl tie2 noOwnUnsafe
theorem tie3 : Tryd.prog.laidByTextLater [("gavelhouse/api.ErrBound", Rows.laid_gavelhouse_api_ErrBound), ("gavelhouse/api.ErrNone", Rows.laid_gavelhouse_api_ErrNone), ("gavelhouse/api.ErrExist", Rows.laid_gavelhouse_api_ErrExist), ("gavelhouse/api.ErrFull", Rows.laid_gavelhouse_api_ErrFull)] [.sentinel, .sentinel, .sentinel, .sentinel] true :=
  Program.laidByTextLater.sub seatTie1 ["gavelhouse/api.ErrBound", "gavelhouse/api.ErrNone", "gavelhouse/api.ErrExist", "gavelhouse/api.ErrFull"] (by kernel_rfl) (by kernel_rfl)
theorem bookOrder_row_tie : Rows.bookOrderRow.laidByTextAt .later Tryd.pinned [.sentinel, .sentinel, .sentinel, .sentinel] true :=
  OpenClaim.laidByTextAt_later rfl rfl tie3 noOwnUnsafe
theorem bookKeeps_row_tie : Rows.bookKeepsRow.laidByTextAt .later Tryd.pinned [.sentinel, .sentinel, .sentinel, .sentinel] true :=
  OpenClaim.laidByTextAt_later rfl rfl tie3 noOwnUnsafe
theorem tie4 : Tryd.prog.laidByTextLater [("gavelhouse/api.ErrBound", Rows.laid_gavelhouse_api_ErrBound), ("gavelhouse/api.ErrShape", Rows.laid_gavelhouse_api_ErrShape), ("gavelhouse/api.ErrFull", Rows.laid_gavelhouse_api_ErrFull), ("gavelhouse/api.ErrPoor", Rows.laid_gavelhouse_api_ErrPoor), ("gavelhouse/api.ErrOrder", Rows.laid_gavelhouse_api_ErrOrder)] [.sentinel, .sentinel, .sentinel, .sentinel, .sentinel] true :=
  Program.laidByTextLater.sub seatTie1 ["gavelhouse/api.ErrBound", "gavelhouse/api.ErrShape", "gavelhouse/api.ErrFull", "gavelhouse/api.ErrPoor", "gavelhouse/api.ErrOrder"] (by kernel_rfl) (by kernel_rfl)
theorem purseKeeps_row_tie : Rows.purseKeepsRow.laidByTextAt .later Tryd.pinned [.sentinel, .sentinel, .sentinel, .sentinel, .sentinel] true :=
  OpenClaim.laidByTextAt_later rfl rfl tie4 noOwnUnsafe
theorem tie5 : Tryd.prog.laidByTextLater [("errors.errorType", Rows.laid_errors_errorType), ("gavelhouse/api.ErrText", Rows.laid_gavelhouse_api_ErrText), ("gavelhouse/api.ErrBound", Rows.laid_gavelhouse_api_ErrBound), ("gavelhouse/api.ErrShape", Rows.laid_gavelhouse_api_ErrShape), ("gavelhouse/api.ErrKind", Rows.laid_gavelhouse_api_ErrKind), ("gavelhouse/api.ErrSum", Rows.laid_gavelhouse_api_ErrSum), ("gavelhouse/api.ErrNone", Rows.laid_gavelhouse_api_ErrNone), ("gavelhouse/api.ErrExist", Rows.laid_gavelhouse_api_ErrExist), ("gavelhouse/api.ErrFull", Rows.laid_gavelhouse_api_ErrFull), ("gavelhouse/api.ErrOff", Rows.laid_gavelhouse_api_ErrOff), ("gavelhouse/api.ErrPoor", Rows.laid_gavelhouse_api_ErrPoor), ("gavelhouse/api.ErrState", Rows.laid_gavelhouse_api_ErrState), ("gavelhouse/api.ErrOrder", Rows.laid_gavelhouse_api_ErrOrder)] [.handle, .sentinel, .sentinel, .sentinel, .sentinel, .sentinel, .sentinel, .sentinel, .sentinel, .sentinel, .sentinel, .sentinel, .sentinel] true :=
  Program.laidByTextLater.sub seatTie1 ["errors.errorType", "gavelhouse/api.ErrText", "gavelhouse/api.ErrBound", "gavelhouse/api.ErrShape", "gavelhouse/api.ErrKind", "gavelhouse/api.ErrSum", "gavelhouse/api.ErrNone", "gavelhouse/api.ErrExist", "gavelhouse/api.ErrFull", "gavelhouse/api.ErrOff", "gavelhouse/api.ErrPoor", "gavelhouse/api.ErrState", "gavelhouse/api.ErrOrder"] (by kernel_rfl) (by kernel_rfl)
theorem tapeActs_row_tie : Rows.tapeActsRow.laidByTextAt .later Tryd.pinned [.handle, .sentinel, .sentinel, .sentinel, .sentinel, .sentinel, .sentinel, .sentinel, .sentinel, .sentinel, .sentinel, .sentinel, .sentinel] true :=
  OpenClaim.laidByTextAt_later rfl rfl tie5 noOwnUnsafe
theorem pursePays_row_tie : Rows.pursePaysRow.laidByTextAt .later Tryd.pinned [.handle, .sentinel, .sentinel, .sentinel, .sentinel, .sentinel, .sentinel, .sentinel, .sentinel, .sentinel, .sentinel, .sentinel, .sentinel] true :=
  OpenClaim.laidByTextAt_later rfl rfl tie5 noOwnUnsafe
theorem bookActs_row_tie : Rows.bookActsRow.laidByTextAt .later Tryd.pinned [.handle, .sentinel, .sentinel, .sentinel, .sentinel, .sentinel, .sentinel, .sentinel, .sentinel, .sentinel, .sentinel, .sentinel, .sentinel] true :=
  OpenClaim.laidByTextAt_later rfl rfl tie5 noOwnUnsafe
theorem purseBackUpto_row_tie : Rows.purseBackUptoRow.laidByTextAt .later Tryd.pinned [.sentinel, .sentinel, .sentinel] true :=
  OpenClaim.laidByTextAt_later rfl rfl tie noOwnUnsafe
theorem tapeReadsUpto_row_tie : Rows.tapeReadsUptoRow.laidByTextAt .later Tryd.pinned [.sentinel, .sentinel, .sentinel, .sentinel] true :=
  OpenClaim.laidByTextAt_later rfl rfl tie2 noOwnUnsafe
theorem bookOrderUpto_row_tie : Rows.bookOrderUptoRow.laidByTextAt .later Tryd.pinned [.sentinel, .sentinel, .sentinel, .sentinel] true :=
  OpenClaim.laidByTextAt_later rfl rfl tie3 noOwnUnsafe
theorem tapeCutsUpto_row_tie : Rows.tapeCutsUptoRow.laidByTextAt .later Tryd.pinned [.sentinel, .sentinel, .sentinel, .sentinel] true :=
  OpenClaim.laidByTextAt_later rfl rfl tie2 noOwnUnsafe
theorem purseKeepsUpto_row_tie : Rows.purseKeepsUptoRow.laidByTextAt .later Tryd.pinned [.sentinel, .sentinel, .sentinel, .sentinel, .sentinel] true :=
  OpenClaim.laidByTextAt_later rfl rfl tie4 noOwnUnsafe
theorem tapeActsUpto_row_tie : Rows.tapeActsUptoRow.laidByTextAt .later Tryd.pinned [.handle, .sentinel, .sentinel, .sentinel, .sentinel, .sentinel, .sentinel, .sentinel, .sentinel, .sentinel, .sentinel, .sentinel, .sentinel] true :=
  OpenClaim.laidByTextAt_later rfl rfl tie5 noOwnUnsafe
theorem pursePaysUpto_row_tie : Rows.pursePaysUptoRow.laidByTextAt .later Tryd.pinned [.handle, .sentinel, .sentinel, .sentinel, .sentinel, .sentinel, .sentinel, .sentinel, .sentinel, .sentinel, .sentinel, .sentinel, .sentinel] true :=
  OpenClaim.laidByTextAt_later rfl rfl tie5 noOwnUnsafe
theorem bookKeepsUpto_row_tie : Rows.bookKeepsUptoRow.laidByTextAt .later Tryd.pinned [.sentinel, .sentinel, .sentinel, .sentinel] true :=
  OpenClaim.laidByTextAt_later rfl rfl tie3 noOwnUnsafe
theorem bookActsUpto_row_tie : Rows.bookActsUptoRow.laidByTextAt .later Tryd.pinned [.handle, .sentinel, .sentinel, .sentinel, .sentinel, .sentinel, .sentinel, .sentinel, .sentinel, .sentinel, .sentinel, .sentinel, .sentinel] true :=
  OpenClaim.laidByTextAt_later rfl rfl tie5 noOwnUnsafe
end Go.Proofs.YtfeeibealokhfaaDoor
