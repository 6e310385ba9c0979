/-
  Closed facts of the row of ScriptAgain: what the call reaches.
-/
import Derived.Test.YtogjajjdaoihdaaGreatDoorTie
import Derived.Test.YtogjajjdaoihdaaGreatDoorCards
import Derived.JoinedOf
import Derived.SevenTiedAt
import Derived.LaidMore
namespace Go.Proofs.YtogjajjdaoihdaaGreatDoor.lawScriptAgain
open Go Go.Proofs.YtogjajjdaoihdaaGreatDoor
theorem rec_ : (Rows.scriptAgainRow.recurses == Tryz.checked.prog.recurses 4) = true := by kernel_rfl
theorem named_ : (Rows.scriptAgainRow.named == Tryz.checked.prog.varsNamed 4) = true := by kernel_rfl
end Go.Proofs.YtogjajjdaoihdaaGreatDoor.lawScriptAgain
