/-
  DERIVED. GIVEN WITH THE SEED: THE PROGRAM's TIES (one call each: nine closed facts by the kernel) AND EACH ROW's TIE, after the 31st guide's Derived/Test/Toyas{Tie, Card}.lean. No idea stands in it: it is a product of the set-up. Laid BY PROGRAM, IN A SANDBOX (cutbox-door.mjs). By AI agents, Wed Nov 11 2026. No macro, syntax, notation, axiom, sorry.
-/
import Derived.Test.YtoaghhcjlfiflaaGreatDoorRows
import Derived.LaidByTextLater
import Derived.SevenTiedAt
import Derived.LaidSub
import Derived.LaidOnce
namespace Go.Proofs.YtoaghhcjlfiflaaGreatDoor
open Go
set_option maxRecDepth 100000
theorem seatTie1 : Tryz.prog.laidByTextLater [("errors.errorType", Rows.laid_errors_errorType), ("twinrampart/api.ErrText", Rows.laid_twinrampart_api_ErrText), ("twinrampart/api.ErrBound", Rows.laid_twinrampart_api_ErrBound), ("twinrampart/api.ErrShape", Rows.laid_twinrampart_api_ErrShape), ("twinrampart/api.ErrNone", Rows.laid_twinrampart_api_ErrNone), ("twinrampart/api.ErrExist", Rows.laid_twinrampart_api_ErrExist), ("twinrampart/api.ErrFull", Rows.laid_twinrampart_api_ErrFull), ("twinrampart/api.ErrOff", Rows.laid_twinrampart_api_ErrOff), ("twinrampart/api.ErrDeny", Rows.laid_twinrampart_api_ErrDeny), ("twinrampart/api.ErrState", Rows.laid_twinrampart_api_ErrState), ("twinrampart/api.ErrOld", Rows.laid_twinrampart_api_ErrOld), ("twinrampart/api.ErrHeld", Rows.laid_twinrampart_api_ErrHeld)] [.handle, .sentinel, .sentinel, .sentinel, .sentinel, .sentinel, .sentinel, .sentinel, .sentinel, .sentinel, .sentinel, .sentinel] true :=
  Program.laidByTextLater_by_one 225 8 2 (by kernel_rfl) (by kernel_rfl) (by kernel_rfl) (by kernel_rfl) (by kernel_rfl) (by kernel_rfl) (fun _ _ => by kernel_rfl)
theorem noOwnUnsafe : Tryz.pinned.checked.prog.headLifts.contains "ownunsafe" = false := by kernel_rfl
theorem tie : Tryz.prog.laidByTextLater [("twinrampart/api.ErrBound", Rows.laid_twinrampart_api_ErrBound), ("twinrampart/api.ErrShape", Rows.laid_twinrampart_api_ErrShape), ("twinrampart/api.ErrNone", Rows.laid_twinrampart_api_ErrNone), ("twinrampart/api.ErrExist", Rows.laid_twinrampart_api_ErrExist), ("twinrampart/api.ErrFull", Rows.laid_twinrampart_api_ErrFull), ("twinrampart/api.ErrOff", Rows.laid_twinrampart_api_ErrOff), ("twinrampart/api.ErrDeny", Rows.laid_twinrampart_api_ErrDeny), ("twinrampart/api.ErrState", Rows.laid_twinrampart_api_ErrState), ("twinrampart/api.ErrOld", Rows.laid_twinrampart_api_ErrOld), ("twinrampart/api.ErrHeld", Rows.laid_twinrampart_api_ErrHeld)] [.sentinel, .sentinel, .sentinel, .sentinel, .sentinel, .sentinel, .sentinel, .sentinel, .sentinel, .sentinel] true :=
  Program.laidByTextLater.sub seatTie1 ["twinrampart/api.ErrBound", "twinrampart/api.ErrShape", "twinrampart/api.ErrNone", "twinrampart/api.ErrExist", "twinrampart/api.ErrFull", "twinrampart/api.ErrOff", "twinrampart/api.ErrDeny", "twinrampart/api.ErrState", "twinrampart/api.ErrOld", "twinrampart/api.ErrHeld"] (by kernel_rfl) (by kernel_rfl)
theorem worldOne_row_tie : Rows.worldOneRow.laidByTextAt .later Tryz.pinned [.sentinel, .sentinel, .sentinel, .sentinel, .sentinel, .sentinel, .sentinel, .sentinel, .sentinel, .sentinel] true :=
  OpenClaim.laidByTextAt_later rfl rfl tie noOwnUnsafe
theorem worldApart_row_tie : Rows.worldApartRow.laidByTextAt .later Tryz.pinned [.sentinel, .sentinel, .sentinel, .sentinel, .sentinel, .sentinel, .sentinel, .sentinel, .sentinel, .sentinel] true :=
  OpenClaim.laidByTextAt_later rfl rfl tie noOwnUnsafe
theorem worldMirrors_row_tie : Rows.worldMirrorsRow.laidByTextAt .later Tryz.pinned [.sentinel, .sentinel, .sentinel, .sentinel, .sentinel, .sentinel, .sentinel, .sentinel, .sentinel, .sentinel] true :=
  OpenClaim.laidByTextAt_later rfl rfl tie noOwnUnsafe
theorem tie2 : Tryz.prog.laidByTextLater [("errors.errorType", Rows.laid_errors_errorType), ("twinrampart/api.ErrText", Rows.laid_twinrampart_api_ErrText), ("twinrampart/api.ErrBound", Rows.laid_twinrampart_api_ErrBound), ("twinrampart/api.ErrShape", Rows.laid_twinrampart_api_ErrShape), ("twinrampart/api.ErrNone", Rows.laid_twinrampart_api_ErrNone), ("twinrampart/api.ErrExist", Rows.laid_twinrampart_api_ErrExist), ("twinrampart/api.ErrFull", Rows.laid_twinrampart_api_ErrFull), ("twinrampart/api.ErrOff", Rows.laid_twinrampart_api_ErrOff), ("twinrampart/api.ErrDeny", Rows.laid_twinrampart_api_ErrDeny), ("twinrampart/api.ErrState", Rows.laid_twinrampart_api_ErrState), ("twinrampart/api.ErrOld", Rows.laid_twinrampart_api_ErrOld), ("twinrampart/api.ErrHeld", Rows.laid_twinrampart_api_ErrHeld)] [.handle, .sentinel, .sentinel, .sentinel, .sentinel, .sentinel, .sentinel, .sentinel, .sentinel, .sentinel, .sentinel, .sentinel] true :=
  Program.laidByTextLater.sub seatTie1 ["errors.errorType", "twinrampart/api.ErrText", "twinrampart/api.ErrBound", "twinrampart/api.ErrShape", "twinrampart/api.ErrNone", "twinrampart/api.ErrExist", "twinrampart/api.ErrFull", "twinrampart/api.ErrOff", "twinrampart/api.ErrDeny", "twinrampart/api.ErrState", "twinrampart/api.ErrOld", "twinrampart/api.ErrHeld"] (by kernel_rfl) (by kernel_rfl)
theorem worldSteps_row_tie : Rows.worldStepsRow.laidByTextAt .later Tryz.pinned [.handle, .sentinel, .sentinel, .sentinel, .sentinel, .sentinel, .sentinel, .sentinel, .sentinel, .sentinel, .sentinel, .sentinel] true :=
  OpenClaim.laidByTextAt_later rfl rfl tie2 noOwnUnsafe
theorem playAgain_row_tie : Rows.playAgainRow.laidByTextAt .later Tryz.pinned [.handle, .sentinel, .sentinel, .sentinel, .sentinel, .sentinel, .sentinel, .sentinel, .sentinel, .sentinel, .sentinel, .sentinel] true :=
  OpenClaim.laidByTextAt_later rfl rfl tie2 noOwnUnsafe
theorem playRuns_row_tie : Rows.playRunsRow.laidByTextAt .later Tryz.pinned [.handle, .sentinel, .sentinel, .sentinel, .sentinel, .sentinel, .sentinel, .sentinel, .sentinel, .sentinel, .sentinel, .sentinel] true :=
  OpenClaim.laidByTextAt_later rfl rfl tie2 noOwnUnsafe
theorem worldOneUpto_row_tie : Rows.worldOneUptoRow.laidByTextAt .later Tryz.pinned [.sentinel, .sentinel, .sentinel, .sentinel, .sentinel, .sentinel, .sentinel, .sentinel, .sentinel, .sentinel] true :=
  OpenClaim.laidByTextAt_later rfl rfl tie noOwnUnsafe
theorem worldApartUpto_row_tie : Rows.worldApartUptoRow.laidByTextAt .later Tryz.pinned [.sentinel, .sentinel, .sentinel, .sentinel, .sentinel, .sentinel, .sentinel, .sentinel, .sentinel, .sentinel] true :=
  OpenClaim.laidByTextAt_later rfl rfl tie noOwnUnsafe
theorem worldMirrorsUpto_row_tie : Rows.worldMirrorsUptoRow.laidByTextAt .later Tryz.pinned [.sentinel, .sentinel, .sentinel, .sentinel, .sentinel, .sentinel, .sentinel, .sentinel, .sentinel, .sentinel] true :=
  OpenClaim.laidByTextAt_later rfl rfl tie noOwnUnsafe
theorem worldStepsUpto_row_tie : Rows.worldStepsUptoRow.laidByTextAt .later Tryz.pinned [.handle, .sentinel, .sentinel, .sentinel, .sentinel, .sentinel, .sentinel, .sentinel, .sentinel, .sentinel, .sentinel, .sentinel] true :=
  OpenClaim.laidByTextAt_later rfl rfl tie2 noOwnUnsafe
theorem playAgainUpto_row_tie : Rows.playAgainUptoRow.laidByTextAt .later Tryz.pinned [.handle, .sentinel, .sentinel, .sentinel, .sentinel, .sentinel, .sentinel, .sentinel, .sentinel, .sentinel, .sentinel, .sentinel] true :=
  OpenClaim.laidByTextAt_later rfl rfl tie2 noOwnUnsafe
theorem playRunsUpto_row_tie : Rows.playRunsUptoRow.laidByTextAt .later Tryz.pinned [.handle, .sentinel, .sentinel, .sentinel, .sentinel, .sentinel, .sentinel, .sentinel, .sentinel, .sentinel, .sentinel, .sentinel] true :=
  OpenClaim.laidByTextAt_later rfl rfl tie2 noOwnUnsafe
end Go.Proofs.YtoaghhcjlfiflaaGreatDoor
