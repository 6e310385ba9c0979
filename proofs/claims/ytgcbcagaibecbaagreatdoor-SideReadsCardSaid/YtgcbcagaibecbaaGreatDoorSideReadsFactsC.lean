/-
  Closed facts of the row of SideReads: what the call reaches.
-/
import Derived.Test.YtgcbcagaibecbaaGreatDoorTie
import Derived.Test.YtgcbcagaibecbaaGreatDoorCards
import Derived.JoinedOf
import Derived.SevenTiedAt
import Derived.LaidMore
namespace Go.Proofs.YtgcbcagaibecbaaGreatDoor.lawSideReads
open Go Go.Proofs.YtgcbcagaibecbaaGreatDoor
theorem goes_ : true = Rows.sideReadsRow.goesBy Tryz.checked.prog := by kernel_rfl
end Go.Proofs.YtgcbcagaibecbaaGreatDoor.lawSideReads
