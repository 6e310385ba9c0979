/-
  Closed facts of the row of SidePlays: what the call reaches.
-/
import Derived.Test.YtggfpjldhglmeaaGreatDoorTie
import Derived.Test.YtggfpjldhglmeaaGreatDoorCards
import Derived.JoinedOf
import Derived.SevenTiedAt
import Derived.LaidMore
namespace Go.Proofs.YtggfpjldhglmeaaGreatDoor.lawSidePlays
open Go Go.Proofs.YtggfpjldhglmeaaGreatDoor
theorem inplace_ : (Rows.sidePlaysRow.inPlace == Tryz.checked.prog.inPlace 3) = true := by kernel_rfl
theorem unf_ : (Rows.sidePlaysRow.unfollowed == Tryz.checked.prog.unfollowed 3) = true := by kernel_rfl
end Go.Proofs.YtggfpjldhglmeaaGreatDoor.lawSidePlays
