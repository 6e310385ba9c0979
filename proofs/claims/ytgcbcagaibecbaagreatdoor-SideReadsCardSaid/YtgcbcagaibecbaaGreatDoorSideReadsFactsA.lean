/-
  Closed facts of the row of SideReads: what the call reaches.
-/
import Derived.Test.YtgcbcagaibecbaaGreatDoorTie
import Derived.Test.YtgcbcagaibecbaaGreatDoorCards
import Derived.JoinedOf
import Derived.SevenTiedAt
import Derived.LaidMore
namespace Go.Proofs.YtgcbcagaibecbaaGreatDoor.lawSideReads
open Go Go.Proofs.YtgcbcagaibecbaaGreatDoor
theorem inplace_ : (Rows.sideReadsRow.inPlace == Tryz.checked.prog.inPlace 3) = true := by kernel_rfl
theorem unf_ : (Rows.sideReadsRow.unfollowed == Tryz.checked.prog.unfollowed 3) = true := by kernel_rfl
end Go.Proofs.YtgcbcagaibecbaaGreatDoor.lawSideReads
