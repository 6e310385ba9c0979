/-
  Closed facts of the row of ScriptPlays, joined.
-/
import Derived.Test.YtogjajjdaoihdaaGreatDoorScriptPlaysFactsA
import Derived.Test.YtogjajjdaoihdaaGreatDoorScriptPlaysFactsB
namespace Go.Proofs.YtogjajjdaoihdaaGreatDoor.lawScriptPlays
open Go Go.Proofs.YtogjajjdaoihdaaGreatDoor
theorem joined_ : joinedFacts Tryz.checked.prog 5 Tryz.f5 Rows.scriptPlaysSpec Rows.scriptPlaysRow = true := by
  unfold joinedFacts
  rw [inplace_, unf_, rec_, named_]
  kernel_rfl
end Go.Proofs.YtogjajjdaoihdaaGreatDoor.lawScriptPlays
