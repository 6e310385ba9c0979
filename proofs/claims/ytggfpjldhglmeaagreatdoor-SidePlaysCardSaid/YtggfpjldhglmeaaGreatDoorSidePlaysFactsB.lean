/-
  Closed facts of the row of SidePlays: what the call reaches.
-/
import Derived.Test.YtggfpjldhglmeaaGreatDoorTie
import Derived.Test.YtggfpjldhglmeaaGreatDoorCards
import Derived.JoinedOf
import Derived.SevenTiedAt
import Derived.LaidMore
namespace Go.Proofs.YtggfpjldhglmeaaGreatDoor.lawSidePlays
open Go Go.Proofs.YtggfpjldhglmeaaGreatDoor
theorem rec_ : (Rows.sidePlaysRow.recurses == Tryz.checked.prog.recurses 3) = true := by kernel_rfl
theorem named_ : (Rows.sidePlaysRow.named == Tryz.checked.prog.varsNamed 3) = true := by kernel_rfl
end Go.Proofs.YtggfpjldhglmeaaGreatDoor.lawSidePlays
