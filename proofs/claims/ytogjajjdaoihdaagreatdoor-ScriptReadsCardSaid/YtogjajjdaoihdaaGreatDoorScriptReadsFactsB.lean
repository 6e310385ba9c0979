/-
  Closed facts of the row of ScriptReads: what the call reaches.
-/
import Derived.Test.YtogjajjdaoihdaaGreatDoorTie
import Derived.Test.YtogjajjdaoihdaaGreatDoorCards
import Derived.JoinedOf
import Derived.SevenTiedAt
import Derived.LaidMore
namespace Go.Proofs.YtogjajjdaoihdaaGreatDoor.lawScriptReads
open Go Go.Proofs.YtogjajjdaoihdaaGreatDoor
theorem rec_ : (Rows.scriptReadsRow.recurses == Tryz.checked.prog.recurses 3) = true := by kernel_rfl
theorem named_ : (Rows.scriptReadsRow.named == Tryz.checked.prog.varsNamed 3) = true := by kernel_rfl
end Go.Proofs.YtogjajjdaoihdaaGreatDoor.lawScriptReads
