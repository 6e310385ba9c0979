/-
  DERIVED. GIVEN WITH THE SEED: THE PROGRAM's TIES (one call each: nine closed facts by the kernel) AND EACH ROW's TIE, after the 31st guide's Derived/Test/Toyas{Tie, Card}.lean. No idea stands in it: it is a product of the set-up. Laid BY PROGRAM, IN A SANDBOX (cutbox-door.mjs). By AI agents, Wed Nov 11 2026. No macro, syntax, notation, axiom, sorry.
-/
import Derived.Test.YtoaghhcjlfiflaaDoorRows
import Derived.LaidByTextLater
import Derived.SevenTiedAt
import Derived.LaidSub
import Derived.LaidOnce
namespace Go.Proofs.YtoaghhcjlfiflaaDoor
open Go
set_option maxRecDepth 100000
theorem seatTie1 : Tryd.prog.laidByTextLater [("twinrampart/api.ErrBound", Rows.laid_twinrampart_api_ErrBound), ("twinrampart/api.ErrShape", Rows.laid_twinrampart_api_ErrShape), ("twinrampart/api.ErrNone", Rows.laid_twinrampart_api_ErrNone), ("twinrampart/api.ErrExist", Rows.laid_twinrampart_api_ErrExist), ("twinrampart/api.ErrFull", Rows.laid_twinrampart_api_ErrFull), ("twinrampart/api.ErrOff", Rows.laid_twinrampart_api_ErrOff), ("twinrampart/api.ErrDeny", Rows.laid_twinrampart_api_ErrDeny), ("twinrampart/api.ErrState", Rows.laid_twinrampart_api_ErrState), ("twinrampart/api.ErrOld", Rows.laid_twinrampart_api_ErrOld), ("twinrampart/api.ErrHeld", Rows.laid_twinrampart_api_ErrHeld)] [.sentinel, .sentinel, .sentinel, .sentinel, .sentinel, .sentinel, .sentinel, .sentinel, .sentinel, .sentinel] true :=
  Program.laidByTextLater_by_one 199 8 2 (by kernel_rfl) (by kernel_rfl) (by kernel_rfl) (by kernel_rfl) (by kernel_rfl) (by kernel_rfl) (fun _ _ => by kernel_rfl)
theorem noOwnUnsafe : Tryd.pinned.checked.prog.headLifts.contains "ownunsafe" = false := by kernel_rfl
theorem tie : Tryd.prog.laidByTextLater [("twinrampart/api.ErrBound", Rows.laid_twinrampart_api_ErrBound), ("twinrampart/api.ErrShape", Rows.laid_twinrampart_api_ErrShape), ("twinrampart/api.ErrNone", Rows.laid_twinrampart_api_ErrNone), ("twinrampart/api.ErrExist", Rows.laid_twinrampart_api_ErrExist), ("twinrampart/api.ErrFull", Rows.laid_twinrampart_api_ErrFull), ("twinrampart/api.ErrOff", Rows.laid_twinrampart_api_ErrOff), ("twinrampart/api.ErrDeny", Rows.laid_twinrampart_api_ErrDeny), ("twinrampart/api.ErrState", Rows.laid_twinrampart_api_ErrState), ("twinrampart/api.ErrOld", Rows.laid_twinrampart_api_ErrOld), ("twinrampart/api.ErrHeld", Rows.laid_twinrampart_api_ErrHeld)] [.sentinel, .sentinel, .sentinel, .sentinel, .sentinel, .sentinel, .sentinel, .sentinel, .sentinel, .sentinel] true :=
  Program.laidByTextLater.sub seatTie1 ["twinrampart/api.ErrBound", "twinrampart/api.ErrShape", "twinrampart/api.ErrNone", "twinrampart/api.ErrExist", "twinrampart/api.ErrFull", "twinrampart/api.ErrOff", "twinrampart/api.ErrDeny", "twinrampart/api.ErrState", "twinrampart/api.ErrOld", "twinrampart/api.ErrHeld"] (by kernel_rfl) (by kernel_rfl)
theorem worldTakes_row_tie : Rows.worldTakesRow.laidByTextAt .later Tryd.pinned [.sentinel, .sentinel, .sentinel, .sentinel, .sentinel, .sentinel, .sentinel, .sentinel, .sentinel, .sentinel] true :=
  OpenClaim.laidByTextAt_later rfl rfl tie noOwnUnsafe
theorem worldTakesUpto_row_tie : Rows.worldTakesUptoRow.laidByTextAt .later Tryd.pinned [.sentinel, .sentinel, .sentinel, .sentinel, .sentinel, .sentinel, .sentinel, .sentinel, .sentinel, .sentinel] true :=
  OpenClaim.laidByTextAt_later rfl rfl tie noOwnUnsafe
end Go.Proofs.YtoaghhcjlfiflaaDoor
