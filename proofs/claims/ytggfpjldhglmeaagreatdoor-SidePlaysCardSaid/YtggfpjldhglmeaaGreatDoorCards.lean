/-
  DERIVED. GIVEN WITH THE SEED: THE CARDS: each row of YtggfpjldhglmeaaGreatDoorRows.lean that lists a variable, with what it lists TIED to the program's text (the seventh form; the later family's looks); each row that meets fmt, with fmt's text TOLD by the authors' own Lean function (tested against real Go, not proved from fmt's source: count such statements apart). THE CARD IS WHAT COUNTS. Prove the row's statement (the work); the ties are given (YtggfpjldhglmeaaGreatDoorTie.lean); close each card by the builder's one call (the guide's Derived/Test/ToyasCard.lean, 'card_holds'). Laid BY PROGRAM, IN A SANDBOX (cutbox-door.mjs). By AI agents, Wed Nov 11 2026. No macro, syntax, notation, axiom, sorry.
-/
import Derived.Test.YtggfpjldhglmeaaGreatDoorRows
import GoSem.ClaimSeven
namespace Go.Proofs.YtggfpjldhglmeaaGreatDoor
namespace Rows

/-- THE TIED CARD OF 'twinrampartlaw3.SidePlays'. -/
def sidePlaysCard : Claim7 := { stood := { row := sidePlaysRow, standIns := [], harness := (true, "be1785583e86affe427ce019bb2a7039e3af06ae7c539fbca944b1f9ec26a99b"), looks := true }, kinds := [], alts := [], goes := true, laidByText := true, laidKinds := [.data, .data, .data, .data, .handle, .sentinel, .sentinel, .sentinel, .sentinel, .sentinel, .sentinel, .sentinel, .sentinel, .sentinel, .sentinel, .sentinel, .sentinel, .sentinel, .widerDeep, .pinned], laidTests := true, laidLooks := .later }
def SidePlaysCardSaid : Prop := Claim7.holds Tryz.pinned (.plain (OpenSpec.ofChange sidePlaysSpec)) sidePlaysCard

/-- THE SECOND FORM's CARD OF 'twinrampartlaw3.SidePlays'. -/
def sidePlaysUptoCard : Claim7 := { stood := { row := sidePlaysUptoRow, standIns := [], harness := (true, "be1785583e86affe427ce019bb2a7039e3af06ae7c539fbca944b1f9ec26a99b"), looks := true }, kinds := [], alts := [], goes := true, laidByText := true, laidKinds := [.data, .data, .data, .data, .handle, .sentinel, .sentinel, .sentinel, .sentinel, .sentinel, .sentinel, .sentinel, .sentinel, .sentinel, .sentinel, .sentinel, .sentinel, .sentinel, .widerDeep, .pinned], laidTests := true, laidLooks := .later }
def SidePlaysUptoCardSaid : Prop := Claim7.holds Tryz.pinned (.plain (OpenSpec.upto sidePlaysSpec)) sidePlaysUptoCard
end Rows
end Go.Proofs.YtggfpjldhglmeaaGreatDoor
