/-
  DERIVED. GIVEN WITH THE SEED: THE CARDS: each row of YtoaghhcjlfiflaaGreatDoorRows.lean that lists a variable, with what it lists TIED to the program's text (the seventh form; the later family's looks); each row that meets fmt, with fmt's text TOLD by the authors' own Lean function (tested against real Go, not proved from fmt's source: count such statements apart). THE CARD IS WHAT COUNTS. Prove the row's statement (the work); the ties are given (YtoaghhcjlfiflaaGreatDoorTie.lean); close each card by the builder's one call (the guide's Derived/Test/ToyasCard.lean, 'card_holds'). Laid BY PROGRAM, IN A SANDBOX (cutbox-door.mjs). By AI agents, Wed Nov 11 2026. No macro, syntax, notation, axiom, sorry.
-/
import Derived.Test.YtoaghhcjlfiflaaGreatDoorRows
import GoSem.ClaimSeven
namespace Go.Proofs.YtoaghhcjlfiflaaGreatDoor
namespace Rows

/-- THE TIED CARD OF 'twinrampartlaw3.WorldOne'. -/
def worldOneCard : Claim7 := { stood := { row := worldOneRow, standIns := [], harness := (true, "32439de7d5072ffc5df19b9851d2a7eb0083f5f4572839dc0078fa8504fa5ec5"), looks := true }, kinds := [], alts := [], laidByText := true, laidKinds := [.sentinel, .sentinel, .sentinel, .sentinel, .sentinel, .sentinel, .sentinel, .sentinel, .sentinel, .sentinel], laidTests := true, laidLooks := .later }
def WorldOneCardSaid : Prop := Claim7.holds Tryz.pinned (.plain (OpenSpec.ofChange worldOneSpec)) worldOneCard

/-- THE TIED CARD OF 'twinrampartlaw3.WorldApart'. -/
def worldApartCard : Claim7 := { stood := { row := worldApartRow, standIns := [], harness := (true, "32439de7d5072ffc5df19b9851d2a7eb0083f5f4572839dc0078fa8504fa5ec5"), looks := true }, kinds := [], alts := [], laidByText := true, laidKinds := [.sentinel, .sentinel, .sentinel, .sentinel, .sentinel, .sentinel, .sentinel, .sentinel, .sentinel, .sentinel], laidTests := true, laidLooks := .later }
def WorldApartCardSaid : Prop := Claim7.holds Tryz.pinned (.plain (OpenSpec.ofChange worldApartSpec)) worldApartCard

/-- THE TIED CARD OF 'twinrampartlaw3.WorldMirrors'. -/
def worldMirrorsCard : Claim7 := { stood := { row := worldMirrorsRow, standIns := [], harness := (true, "32439de7d5072ffc5df19b9851d2a7eb0083f5f4572839dc0078fa8504fa5ec5"), looks := true }, kinds := [], alts := [], laidByText := true, laidKinds := [.sentinel, .sentinel, .sentinel, .sentinel, .sentinel, .sentinel, .sentinel, .sentinel, .sentinel, .sentinel], laidTests := true, laidLooks := .later }
def WorldMirrorsCardSaid : Prop := Claim7.holds Tryz.pinned (.plain (OpenSpec.ofChange worldMirrorsSpec)) worldMirrorsCard

/-- THE TIED CARD OF 'twinrampartlaw3.WorldSteps'. -/
def worldStepsCard : Claim7 := { stood := { row := worldStepsRow, standIns := [], harness := (true, "32439de7d5072ffc5df19b9851d2a7eb0083f5f4572839dc0078fa8504fa5ec5"), looks := true }, kinds := [], alts := [], laidByText := true, laidKinds := [.handle, .sentinel, .sentinel, .sentinel, .sentinel, .sentinel, .sentinel, .sentinel, .sentinel, .sentinel, .sentinel, .sentinel], laidTests := true, laidLooks := .later }
def WorldStepsCardSaid : Prop := Claim7.holds Tryz.pinned (.plain (OpenSpec.ofChange worldStepsSpec)) worldStepsCard

/-- THE TIED CARD OF 'twinrampartlaw3.PlayAgain'. -/
def playAgainCard : Claim7 := { stood := { row := playAgainRow, standIns := [], harness := (true, "32439de7d5072ffc5df19b9851d2a7eb0083f5f4572839dc0078fa8504fa5ec5"), looks := true }, kinds := [], alts := [], laidByText := true, laidKinds := [.handle, .sentinel, .sentinel, .sentinel, .sentinel, .sentinel, .sentinel, .sentinel, .sentinel, .sentinel, .sentinel, .sentinel], laidTests := true, laidLooks := .later }
def PlayAgainCardSaid : Prop := Claim7.holds Tryz.pinned (.plain (OpenSpec.ofChange playAgainSpec)) playAgainCard

/-- THE TIED CARD OF 'twinrampartlaw3.PlayRuns'. -/
def playRunsCard : Claim7 := { stood := { row := playRunsRow, standIns := [], harness := (true, "32439de7d5072ffc5df19b9851d2a7eb0083f5f4572839dc0078fa8504fa5ec5"), looks := true }, kinds := [], alts := [], laidByText := true, laidKinds := [.handle, .sentinel, .sentinel, .sentinel, .sentinel, .sentinel, .sentinel, .sentinel, .sentinel, .sentinel, .sentinel, .sentinel], laidTests := true, laidLooks := .later }
def PlayRunsCardSaid : Prop := Claim7.holds Tryz.pinned (.plain (OpenSpec.ofChange playRunsSpec)) playRunsCard

/-- THE SECOND FORM's CARD OF 'twinrampartlaw3.WorldOne'. -/
def worldOneUptoCard : Claim7 := { stood := { row := worldOneUptoRow, standIns := [], harness := (true, "32439de7d5072ffc5df19b9851d2a7eb0083f5f4572839dc0078fa8504fa5ec5"), looks := true }, kinds := [], alts := [], laidByText := true, laidKinds := [.sentinel, .sentinel, .sentinel, .sentinel, .sentinel, .sentinel, .sentinel, .sentinel, .sentinel, .sentinel], laidTests := true, laidLooks := .later }
def WorldOneUptoCardSaid : Prop := Claim7.holds Tryz.pinned (.plain (OpenSpec.upto worldOneSpec)) worldOneUptoCard

/-- THE SECOND FORM's CARD OF 'twinrampartlaw3.WorldApart'. -/
def worldApartUptoCard : Claim7 := { stood := { row := worldApartUptoRow, standIns := [], harness := (true, "32439de7d5072ffc5df19b9851d2a7eb0083f5f4572839dc0078fa8504fa5ec5"), looks := true }, kinds := [], alts := [], laidByText := true, laidKinds := [.sentinel, .sentinel, .sentinel, .sentinel, .sentinel, .sentinel, .sentinel, .sentinel, .sentinel, .sentinel], laidTests := true, laidLooks := .later }
def WorldApartUptoCardSaid : Prop := Claim7.holds Tryz.pinned (.plain (OpenSpec.upto worldApartSpec)) worldApartUptoCard

/-- THE SECOND FORM's CARD OF 'twinrampartlaw3.WorldMirrors'. -/
def worldMirrorsUptoCard : Claim7 := { stood := { row := worldMirrorsUptoRow, standIns := [], harness := (true, "32439de7d5072ffc5df19b9851d2a7eb0083f5f4572839dc0078fa8504fa5ec5"), looks := true }, kinds := [], alts := [], laidByText := true, laidKinds := [.sentinel, .sentinel, .sentinel, .sentinel, .sentinel, .sentinel, .sentinel, .sentinel, .sentinel, .sentinel], laidTests := true, laidLooks := .later }
def WorldMirrorsUptoCardSaid : Prop := Claim7.holds Tryz.pinned (.plain (OpenSpec.upto worldMirrorsSpec)) worldMirrorsUptoCard

/-- THE SECOND FORM's CARD OF 'twinrampartlaw3.WorldSteps'. -/
def worldStepsUptoCard : Claim7 := { stood := { row := worldStepsUptoRow, standIns := [], harness := (true, "32439de7d5072ffc5df19b9851d2a7eb0083f5f4572839dc0078fa8504fa5ec5"), looks := true }, kinds := [], alts := [], laidByText := true, laidKinds := [.handle, .sentinel, .sentinel, .sentinel, .sentinel, .sentinel, .sentinel, .sentinel, .sentinel, .sentinel, .sentinel, .sentinel], laidTests := true, laidLooks := .later }
def WorldStepsUptoCardSaid : Prop := Claim7.holds Tryz.pinned (.plain (OpenSpec.upto worldStepsSpec)) worldStepsUptoCard

/-- THE SECOND FORM's CARD OF 'twinrampartlaw3.PlayAgain'. -/
def playAgainUptoCard : Claim7 := { stood := { row := playAgainUptoRow, standIns := [], harness := (true, "32439de7d5072ffc5df19b9851d2a7eb0083f5f4572839dc0078fa8504fa5ec5"), looks := true }, kinds := [], alts := [], laidByText := true, laidKinds := [.handle, .sentinel, .sentinel, .sentinel, .sentinel, .sentinel, .sentinel, .sentinel, .sentinel, .sentinel, .sentinel, .sentinel], laidTests := true, laidLooks := .later }
def PlayAgainUptoCardSaid : Prop := Claim7.holds Tryz.pinned (.plain (OpenSpec.upto playAgainSpec)) playAgainUptoCard

/-- THE SECOND FORM's CARD OF 'twinrampartlaw3.PlayRuns'. -/
def playRunsUptoCard : Claim7 := { stood := { row := playRunsUptoRow, standIns := [], harness := (true, "32439de7d5072ffc5df19b9851d2a7eb0083f5f4572839dc0078fa8504fa5ec5"), looks := true }, kinds := [], alts := [], laidByText := true, laidKinds := [.handle, .sentinel, .sentinel, .sentinel, .sentinel, .sentinel, .sentinel, .sentinel, .sentinel, .sentinel, .sentinel, .sentinel], laidTests := true, laidLooks := .later }
def PlayRunsUptoCardSaid : Prop := Claim7.holds Tryz.pinned (.plain (OpenSpec.upto playRunsSpec)) playRunsUptoCard
end Rows
end Go.Proofs.YtoaghhcjlfiflaaGreatDoor
