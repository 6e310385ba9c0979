/-
  Closed facts of the row of SideReads, joined.
-/
import Derived.Test.YtgcbcagaibecbaaGreatDoorSideReadsFactsA
import Derived.Test.YtgcbcagaibecbaaGreatDoorSideReadsFactsB
namespace Go.Proofs.YtgcbcagaibecbaaGreatDoor.lawSideReads
open Go Go.Proofs.YtgcbcagaibecbaaGreatDoor
theorem joined_ : joinedFacts Tryz.checked.prog 3 Tryz.f3 Rows.sideReadsSpec Rows.sideReadsRow = true := by
  unfold joinedFacts
  rw [inplace_, unf_, rec_, named_]
  kernel_rfl
end Go.Proofs.YtgcbcagaibecbaaGreatDoor.lawSideReads
