/-
  Closed facts of the row of ScriptAgain: what the call reaches.
-/
import Derived.Test.YtogjajjdaoihdaaGreatDoorTie
import Derived.Test.YtogjajjdaoihdaaGreatDoorCards
import Derived.JoinedOf
import Derived.SevenTiedAt
import Derived.LaidMore
namespace Go.Proofs.YtogjajjdaoihdaaGreatDoor.lawScriptAgain
open Go Go.Proofs.YtogjajjdaoihdaaGreatDoor
theorem inplace_ : (Rows.scriptAgainRow.inPlace == Tryz.checked.prog.inPlace 4) = true := by kernel_rfl
theorem unf_ : (Rows.scriptAgainRow.unfollowed == Tryz.checked.prog.unfollowed 4) = true := by kernel_rfl
end Go.Proofs.YtogjajjdaoihdaaGreatDoor.lawScriptAgain
