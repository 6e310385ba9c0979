/-
  Closed facts of the row of ScriptAgain: what the call reaches.
-/
import Derived.Test.YtogjajjdaoihdaaGreatDoorTie
import Derived.Test.YtogjajjdaoihdaaGreatDoorCards
import Derived.JoinedOf
import Derived.SevenTiedAt
import Derived.LaidMore
namespace Go.Proofs.YtogjajjdaoihdaaGreatDoor.lawScriptAgain
open Go Go.Proofs.YtogjajjdaoihdaaGreatDoor
theorem goes_ : true = Rows.scriptAgainRow.goesBy Tryz.checked.prog := by kernel_rfl
end Go.Proofs.YtogjajjdaoihdaaGreatDoor.lawScriptAgain
