/-
  DERIVED. GIVEN WITH THE SEED: THE CARDS: each row of YtgcbcagaibecbaaGreatDoorRows.lean that lists a variable, with what it lists TIED to the program's text (the seventh form; the later family's looks); each row that meets fmt, with fmt's text TOLD by the authors' own Lean function (tested against real Go, not proved from fmt's source: count such statements apart). THE CARD IS WHAT COUNTS. Prove the row's statement (the work); the ties are given (YtgcbcagaibecbaaGreatDoorTie.lean); close each card by the builder's one call (the guide's Derived/Test/ToyasCard.lean, 'card_holds'). Laid BY PROGRAM, IN A SANDBOX (cutbox-door.mjs). By AI agents, Wed Nov 11 2026. No macro, syntax, notation, axiom, sorry.
-/
import Derived.Test.YtgcbcagaibecbaaGreatDoorRows
import GoSem.ClaimSeven
namespace Go.Proofs.YtgcbcagaibecbaaGreatDoor
namespace Rows

/-- THE TIED CARD OF 'twinrampartlaw3.SideReads'. -/
def sideReadsCard : Claim7 := { stood := { row := sideReadsRow, standIns := [], harness := (true, "aa927aed92ec96dbdf84c30b176aa57536e515131d44dbeed6906a6c9d7da03e"), looks := true }, kinds := [], alts := [], goes := true, laidByText := true, laidKinds := [.data, .data, .data, .data, .handle, .sentinel, .sentinel, .sentinel, .sentinel, .sentinel, .sentinel, .sentinel, .sentinel, .sentinel, .sentinel, .sentinel, .sentinel, .sentinel, .widerDeep, .pinned], laidTests := true, laidLooks := .later }
def SideReadsCardSaid : Prop := Claim7.holds Tryz.pinned (.plain (OpenSpec.ofChange sideReadsSpec)) sideReadsCard

/-- THE SECOND FORM's CARD OF 'twinrampartlaw3.SideReads'. -/
def sideReadsUptoCard : Claim7 := { stood := { row := sideReadsUptoRow, standIns := [], harness := (true, "aa927aed92ec96dbdf84c30b176aa57536e515131d44dbeed6906a6c9d7da03e"), looks := true }, kinds := [], alts := [], goes := true, laidByText := true, laidKinds := [.data, .data, .data, .data, .handle, .sentinel, .sentinel, .sentinel, .sentinel, .sentinel, .sentinel, .sentinel, .sentinel, .sentinel, .sentinel, .sentinel, .sentinel, .sentinel, .widerDeep, .pinned], laidTests := true, laidLooks := .later }
def SideReadsUptoCardSaid : Prop := Claim7.holds Tryz.pinned (.plain (OpenSpec.upto sideReadsSpec)) sideReadsUptoCard
end Rows
end Go.Proofs.YtgcbcagaibecbaaGreatDoor
