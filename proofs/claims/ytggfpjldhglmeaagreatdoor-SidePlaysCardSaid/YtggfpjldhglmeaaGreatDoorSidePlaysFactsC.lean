/-
  Closed facts of the row of SidePlays: what the call reaches.
-/
import Derived.Test.YtggfpjldhglmeaaGreatDoorTie
import Derived.Test.YtggfpjldhglmeaaGreatDoorCards
import Derived.JoinedOf
import Derived.SevenTiedAt
import Derived.LaidMore
namespace Go.Proofs.YtggfpjldhglmeaaGreatDoor.lawSidePlays
open Go Go.Proofs.YtggfpjldhglmeaaGreatDoor
theorem goes_ : true = Rows.sidePlaysRow.goesBy Tryz.checked.prog := by kernel_rfl
end Go.Proofs.YtggfpjldhglmeaaGreatDoor.lawSidePlays
