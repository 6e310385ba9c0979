/-
  Closed facts of the row of ScriptAgain, joined.
-/
import Derived.Test.YtogjajjdaoihdaaGreatDoorScriptAgainFactsA
import Derived.Test.YtogjajjdaoihdaaGreatDoorScriptAgainFactsB
namespace Go.Proofs.YtogjajjdaoihdaaGreatDoor.lawScriptAgain
open Go Go.Proofs.YtogjajjdaoihdaaGreatDoor
theorem joined_ : joinedFacts Tryz.checked.prog 4 Tryz.f4 Rows.scriptAgainSpec Rows.scriptAgainRow = true := by
  unfold joinedFacts
  rw [inplace_, unf_, rec_, named_]
  kernel_rfl
end Go.Proofs.YtogjajjdaoihdaaGreatDoor.lawScriptAgain
