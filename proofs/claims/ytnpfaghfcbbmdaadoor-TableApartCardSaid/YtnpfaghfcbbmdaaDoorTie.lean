/-
  DERIVED. GIVEN WITH THE SEED: THE PROGRAM's TIES (one call each: nine closed facts by the kernel) AND EACH ROW's TIE, after the 31st guide's Derived/Test/Toyas{Tie, Card}.lean. No idea stands in it: it is a product of the set-up. Laid BY PROGRAM, IN A SANDBOX (cutbox-door.mjs). By AI agents, Wed Nov 11 2026. No macro, syntax, notation, axiom, sorry.
-/
import Derived.Test.YtnpfaghfcbbmdaaDoorRows
import Derived.LaidByTextLater
import Derived.SevenTiedAt
import Derived.LaidSub
import Derived.LaidOnce
namespace Go.Proofs.YtnpfaghfcbbmdaaDoor
open Go
set_option maxRecDepth 100000
theorem seatTie1 : Tryd.prog.laidByTextLater [("errors.errorType", Rows.laid_errors_errorType), ("twinrampart/api.ErrText", Rows.laid_twinrampart_api_ErrText), ("twinrampart/api.ErrBound", Rows.laid_twinrampart_api_ErrBound), ("twinrampart/api.ErrShape", Rows.laid_twinrampart_api_ErrShape), ("twinrampart/api.ErrNone", Rows.laid_twinrampart_api_ErrNone), ("twinrampart/api.ErrExist", Rows.laid_twinrampart_api_ErrExist), ("twinrampart/api.ErrFull", Rows.laid_twinrampart_api_ErrFull), ("twinrampart/api.ErrOff", Rows.laid_twinrampart_api_ErrOff), ("twinrampart/api.ErrDeny", Rows.laid_twinrampart_api_ErrDeny), ("twinrampart/api.ErrState", Rows.laid_twinrampart_api_ErrState), ("twinrampart/api.ErrOld", Rows.laid_twinrampart_api_ErrOld), ("twinrampart/api.ErrHeld", Rows.laid_twinrampart_api_ErrHeld)] [.handle, .sentinel, .sentinel, .sentinel, .sentinel, .sentinel, .sentinel, .sentinel, .sentinel, .sentinel, .sentinel, .sentinel] true :=
  Program.laidByTextLater_by_one 225 8 2 (by kernel_rfl) (by kernel_rfl) (by kernel_rfl) (by kernel_rfl) (by kernel_rfl) (by kernel_rfl) (fun _ _ => by kernel_rfl)
theorem noOwnUnsafe : Tryd.pinned.checked.prog.headLifts.contains "ownunsafe" = false := by kernel_rfl
theorem tie : Tryd.prog.laidByTextLater [("twinrampart/api.ErrBound", Rows.laid_twinrampart_api_ErrBound), ("twinrampart/api.ErrState", Rows.laid_twinrampart_api_ErrState)] [.sentinel, .sentinel] true :=
  Program.laidByTextLater.sub seatTie1 ["twinrampart/api.ErrBound", "twinrampart/api.ErrState"] (by kernel_rfl) (by kernel_rfl)
theorem trackCloses_row_tie : Rows.trackClosesRow.laidByTextAt .later Tryd.pinned [.sentinel, .sentinel] true :=
  OpenClaim.laidByTextAt_later rfl rfl tie noOwnUnsafe
theorem tie2 : Tryd.prog.laidByTextLater [("errors.errorType", Rows.laid_errors_errorType), ("twinrampart/api.ErrText", Rows.laid_twinrampart_api_ErrText), ("twinrampart/api.ErrBound", Rows.laid_twinrampart_api_ErrBound), ("twinrampart/api.ErrShape", Rows.laid_twinrampart_api_ErrShape), ("twinrampart/api.ErrNone", Rows.laid_twinrampart_api_ErrNone), ("twinrampart/api.ErrExist", Rows.laid_twinrampart_api_ErrExist), ("twinrampart/api.ErrFull", Rows.laid_twinrampart_api_ErrFull), ("twinrampart/api.ErrOff", Rows.laid_twinrampart_api_ErrOff), ("twinrampart/api.ErrDeny", Rows.laid_twinrampart_api_ErrDeny), ("twinrampart/api.ErrState", Rows.laid_twinrampart_api_ErrState), ("twinrampart/api.ErrOld", Rows.laid_twinrampart_api_ErrOld), ("twinrampart/api.ErrHeld", Rows.laid_twinrampart_api_ErrHeld)] [.handle, .sentinel, .sentinel, .sentinel, .sentinel, .sentinel, .sentinel, .sentinel, .sentinel, .sentinel, .sentinel, .sentinel] true :=
  Program.laidByTextLater.sub seatTie1 ["errors.errorType", "twinrampart/api.ErrText", "twinrampart/api.ErrBound", "twinrampart/api.ErrShape", "twinrampart/api.ErrNone", "twinrampart/api.ErrExist", "twinrampart/api.ErrFull", "twinrampart/api.ErrOff", "twinrampart/api.ErrDeny", "twinrampart/api.ErrState", "twinrampart/api.ErrOld", "twinrampart/api.ErrHeld"] (by kernel_rfl) (by kernel_rfl)
theorem trackSteps_row_tie : Rows.trackStepsRow.laidByTextAt .later Tryd.pinned [.handle, .sentinel, .sentinel, .sentinel, .sentinel, .sentinel, .sentinel, .sentinel, .sentinel, .sentinel, .sentinel, .sentinel] true :=
  OpenClaim.laidByTextAt_later rfl rfl tie2 noOwnUnsafe
theorem roleActs_row_tie : Rows.roleActsRow.laidByTextAt .later Tryd.pinned [.handle, .sentinel, .sentinel, .sentinel, .sentinel, .sentinel, .sentinel, .sentinel, .sentinel, .sentinel, .sentinel, .sentinel] true :=
  OpenClaim.laidByTextAt_later rfl rfl tie2 noOwnUnsafe
theorem mirrorTells_row_tie : Rows.mirrorTellsRow.laidByTextAt .later Tryd.pinned [.handle, .sentinel, .sentinel, .sentinel, .sentinel, .sentinel, .sentinel, .sentinel, .sentinel, .sentinel, .sentinel, .sentinel] true :=
  OpenClaim.laidByTextAt_later rfl rfl tie2 noOwnUnsafe
theorem tableFills_row_tie : Rows.tableFillsRow.laidByTextAt .later Tryd.pinned [.handle, .sentinel, .sentinel, .sentinel, .sentinel, .sentinel, .sentinel, .sentinel, .sentinel, .sentinel, .sentinel, .sentinel] true :=
  OpenClaim.laidByTextAt_later rfl rfl tie2 noOwnUnsafe
theorem tie3 : Tryd.prog.laidByTextLater [("twinrampart/api.ErrBound", Rows.laid_twinrampart_api_ErrBound), ("twinrampart/api.ErrShape", Rows.laid_twinrampart_api_ErrShape), ("twinrampart/api.ErrHeld", Rows.laid_twinrampart_api_ErrHeld)] [.sentinel, .sentinel, .sentinel] true :=
  Program.laidByTextLater.sub seatTie1 ["twinrampart/api.ErrBound", "twinrampart/api.ErrShape", "twinrampart/api.ErrHeld"] (by kernel_rfl) (by kernel_rfl)
theorem roleApart_row_tie : Rows.roleApartRow.laidByTextAt .later Tryd.pinned [.sentinel, .sentinel, .sentinel] true :=
  OpenClaim.laidByTextAt_later rfl rfl tie3 noOwnUnsafe
theorem roleSilence_row_tie : Rows.roleSilenceRow.laidByTextAt .later Tryd.pinned [.sentinel, .sentinel, .sentinel] true :=
  OpenClaim.laidByTextAt_later rfl rfl tie3 noOwnUnsafe
theorem tie4 : Tryd.prog.laidByTextLater [("twinrampart/api.ErrBound", Rows.laid_twinrampart_api_ErrBound), ("twinrampart/api.ErrOld", Rows.laid_twinrampart_api_ErrOld)] [.sentinel, .sentinel] true :=
  Program.laidByTextLater.sub seatTie1 ["twinrampart/api.ErrBound", "twinrampart/api.ErrOld"] (by kernel_rfl) (by kernel_rfl)
theorem mirrorTurned_row_tie : Rows.mirrorTurnedRow.laidByTextAt .later Tryd.pinned [.sentinel, .sentinel] true :=
  OpenClaim.laidByTextAt_later rfl rfl tie4 noOwnUnsafe
theorem tie5 : Tryd.prog.laidByTextLater [("twinrampart/api.ErrBound", Rows.laid_twinrampart_api_ErrBound), ("twinrampart/api.ErrNone", Rows.laid_twinrampart_api_ErrNone), ("twinrampart/api.ErrExist", Rows.laid_twinrampart_api_ErrExist), ("twinrampart/api.ErrFull", Rows.laid_twinrampart_api_ErrFull)] [.sentinel, .sentinel, .sentinel, .sentinel] true :=
  Program.laidByTextLater.sub seatTie1 ["twinrampart/api.ErrBound", "twinrampart/api.ErrNone", "twinrampart/api.ErrExist", "twinrampart/api.ErrFull"] (by kernel_rfl) (by kernel_rfl)
theorem tableApart_row_tie : Rows.tableApartRow.laidByTextAt .later Tryd.pinned [.sentinel, .sentinel, .sentinel, .sentinel] true :=
  OpenClaim.laidByTextAt_later rfl rfl tie5 noOwnUnsafe
theorem trackClosesUpto_row_tie : Rows.trackClosesUptoRow.laidByTextAt .later Tryd.pinned [.sentinel, .sentinel] true :=
  OpenClaim.laidByTextAt_later rfl rfl tie noOwnUnsafe
theorem trackStepsUpto_row_tie : Rows.trackStepsUptoRow.laidByTextAt .later Tryd.pinned [.handle, .sentinel, .sentinel, .sentinel, .sentinel, .sentinel, .sentinel, .sentinel, .sentinel, .sentinel, .sentinel, .sentinel] true :=
  OpenClaim.laidByTextAt_later rfl rfl tie2 noOwnUnsafe
theorem roleApartUpto_row_tie : Rows.roleApartUptoRow.laidByTextAt .later Tryd.pinned [.sentinel, .sentinel, .sentinel] true :=
  OpenClaim.laidByTextAt_later rfl rfl tie3 noOwnUnsafe
theorem roleSilenceUpto_row_tie : Rows.roleSilenceUptoRow.laidByTextAt .later Tryd.pinned [.sentinel, .sentinel, .sentinel] true :=
  OpenClaim.laidByTextAt_later rfl rfl tie3 noOwnUnsafe
theorem roleActsUpto_row_tie : Rows.roleActsUptoRow.laidByTextAt .later Tryd.pinned [.handle, .sentinel, .sentinel, .sentinel, .sentinel, .sentinel, .sentinel, .sentinel, .sentinel, .sentinel, .sentinel, .sentinel] true :=
  OpenClaim.laidByTextAt_later rfl rfl tie2 noOwnUnsafe
theorem mirrorTurnedUpto_row_tie : Rows.mirrorTurnedUptoRow.laidByTextAt .later Tryd.pinned [.sentinel, .sentinel] true :=
  OpenClaim.laidByTextAt_later rfl rfl tie4 noOwnUnsafe
theorem mirrorTellsUpto_row_tie : Rows.mirrorTellsUptoRow.laidByTextAt .later Tryd.pinned [.handle, .sentinel, .sentinel, .sentinel, .sentinel, .sentinel, .sentinel, .sentinel, .sentinel, .sentinel, .sentinel, .sentinel] true :=
  OpenClaim.laidByTextAt_later rfl rfl tie2 noOwnUnsafe
theorem tableApartUpto_row_tie : Rows.tableApartUptoRow.laidByTextAt .later Tryd.pinned [.sentinel, .sentinel, .sentinel, .sentinel] true :=
  OpenClaim.laidByTextAt_later rfl rfl tie5 noOwnUnsafe
theorem tableFillsUpto_row_tie : Rows.tableFillsUptoRow.laidByTextAt .later Tryd.pinned [.handle, .sentinel, .sentinel, .sentinel, .sentinel, .sentinel, .sentinel, .sentinel, .sentinel, .sentinel, .sentinel, .sentinel] true :=
  OpenClaim.laidByTextAt_later rfl rfl tie2 noOwnUnsafe
end Go.Proofs.YtnpfaghfcbbmdaaDoor
