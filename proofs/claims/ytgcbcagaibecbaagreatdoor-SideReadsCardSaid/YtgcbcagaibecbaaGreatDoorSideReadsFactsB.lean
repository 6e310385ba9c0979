/-
  Closed facts of the row of SideReads: what the call reaches.
-/
import Derived.Test.YtgcbcagaibecbaaGreatDoorTie
import Derived.Test.YtgcbcagaibecbaaGreatDoorCards
import Derived.JoinedOf
import Derived.SevenTiedAt
import Derived.LaidMore
namespace Go.Proofs.YtgcbcagaibecbaaGreatDoor.lawSideReads
open Go Go.Proofs.YtgcbcagaibecbaaGreatDoor
theorem rec_ : (Rows.sideReadsRow.recurses == Tryz.checked.prog.recurses 3) = true := by kernel_rfl
theorem named_ : (Rows.sideReadsRow.named == Tryz.checked.prog.varsNamed 3) = true := by kernel_rfl
end Go.Proofs.YtgcbcagaibecbaaGreatDoor.lawSideReads
