/-
  Closed facts of the row of ScriptPlays: what the call reaches.
-/
import Derived.Test.YtogjajjdaoihdaaGreatDoorTie
import Derived.Test.YtogjajjdaoihdaaGreatDoorCards
import Derived.JoinedOf
import Derived.SevenTiedAt
import Derived.LaidMore
namespace Go.Proofs.YtogjajjdaoihdaaGreatDoor.lawScriptPlays
open Go Go.Proofs.YtogjajjdaoihdaaGreatDoor
theorem inplace_ : (Rows.scriptPlaysRow.inPlace == Tryz.checked.prog.inPlace 5) = true := by kernel_rfl
theorem unf_ : (Rows.scriptPlaysRow.unfollowed == Tryz.checked.prog.unfollowed 5) = true := by kernel_rfl
end Go.Proofs.YtogjajjdaoihdaaGreatDoor.lawScriptPlays
