/-
  Closed facts of the row of ScriptPlays: what the call reaches.
-/
import Derived.Test.YtogjajjdaoihdaaGreatDoorTie
import Derived.Test.YtogjajjdaoihdaaGreatDoorCards
import Derived.JoinedOf
import Derived.SevenTiedAt
import Derived.LaidMore
namespace Go.Proofs.YtogjajjdaoihdaaGreatDoor.lawScriptPlays
open Go Go.Proofs.YtogjajjdaoihdaaGreatDoor
theorem goes_ : true = Rows.scriptPlaysRow.goesBy Tryz.checked.prog := by kernel_rfl
end Go.Proofs.YtogjajjdaoihdaaGreatDoor.lawScriptPlays
