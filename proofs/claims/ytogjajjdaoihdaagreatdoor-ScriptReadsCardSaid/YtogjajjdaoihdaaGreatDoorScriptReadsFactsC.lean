/-
  Closed facts of the row of ScriptReads: what the call reaches.
-/
import Derived.Test.YtogjajjdaoihdaaGreatDoorTie
import Derived.Test.YtogjajjdaoihdaaGreatDoorCards
import Derived.JoinedOf
import Derived.SevenTiedAt
import Derived.LaidMore
namespace Go.Proofs.YtogjajjdaoihdaaGreatDoor.lawScriptReads
open Go Go.Proofs.YtogjajjdaoihdaaGreatDoor
theorem goes_ : true = Rows.scriptReadsRow.goesBy Tryz.checked.prog := by kernel_rfl
end Go.Proofs.YtogjajjdaoihdaaGreatDoor.lawScriptReads
