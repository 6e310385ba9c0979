/-
  Closed facts of the row of ScriptPlays: what the call reaches.
-/
import Derived.Test.YtogjajjdaoihdaaGreatDoorTie
import Derived.Test.YtogjajjdaoihdaaGreatDoorCards
import Derived.JoinedOf
import Derived.SevenTiedAt
import Derived.LaidMore
namespace Go.Proofs.YtogjajjdaoihdaaGreatDoor.lawScriptPlays
open Go Go.Proofs.YtogjajjdaoihdaaGreatDoor
theorem rec_ : (Rows.scriptPlaysRow.recurses == Tryz.checked.prog.recurses 5) = true := by kernel_rfl
theorem named_ : (Rows.scriptPlaysRow.named == Tryz.checked.prog.varsNamed 5) = true := by kernel_rfl
end Go.Proofs.YtogjajjdaoihdaaGreatDoor.lawScriptPlays
