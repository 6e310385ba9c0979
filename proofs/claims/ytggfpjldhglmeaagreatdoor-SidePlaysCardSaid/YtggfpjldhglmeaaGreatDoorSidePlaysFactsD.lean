/-
  Closed facts of the row of SidePlays, joined.
-/
import Derived.Test.YtggfpjldhglmeaaGreatDoorSidePlaysFactsA
import Derived.Test.YtggfpjldhglmeaaGreatDoorSidePlaysFactsB
namespace Go.Proofs.YtggfpjldhglmeaaGreatDoor.lawSidePlays
open Go Go.Proofs.YtggfpjldhglmeaaGreatDoor
theorem joined_ : joinedFacts Tryz.checked.prog 3 Tryz.f3 Rows.sidePlaysSpec Rows.sidePlaysRow = true := by
  unfold joinedFacts
  rw [inplace_, unf_, rec_, named_]
  kernel_rfl
end Go.Proofs.YtggfpjldhglmeaaGreatDoor.lawSidePlays
