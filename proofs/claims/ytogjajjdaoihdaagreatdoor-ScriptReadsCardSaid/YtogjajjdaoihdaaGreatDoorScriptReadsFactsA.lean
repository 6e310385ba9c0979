/-
  Closed facts of the row of ScriptReads: what the call reaches.
-/
import Derived.Test.YtogjajjdaoihdaaGreatDoorTie
import Derived.Test.YtogjajjdaoihdaaGreatDoorCards
import Derived.JoinedOf
import Derived.SevenTiedAt
import Derived.LaidMore
namespace Go.Proofs.YtogjajjdaoihdaaGreatDoor.lawScriptReads
open Go Go.Proofs.YtogjajjdaoihdaaGreatDoor
theorem inplace_ : (Rows.scriptReadsRow.inPlace == Tryz.checked.prog.inPlace 3) = true := by kernel_rfl
theorem unf_ : (Rows.scriptReadsRow.unfollowed == Tryz.checked.prog.unfollowed 3) = true := by kernel_rfl
end Go.Proofs.YtogjajjdaoihdaaGreatDoor.lawScriptReads
