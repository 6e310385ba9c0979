/-
  DERIVED. GIVEN WITH THE SEED: THE CARDS: each row of YtakdekkieobbaaaGreatDoorRows.lean that lists a variable, with what it lists TIED to the program's text (the seventh form; the later family's looks); each row that meets fmt, with fmt's text TOLD by the authors' own Lean function (tested against real Go, not proved from fmt's source: count such statements apart). THE CARD IS WHAT COUNTS. Prove the row's statement (the work); the ties are given (YtakdekkieobbaaaGreatDoorTie.lean); close each card by the builder's one call (the guide's Derived/Test/ToyasCard.lean, 'card_holds'). Laid BY PROGRAM, IN A SANDBOX (cutbox-door.mjs). By AI agents, Wed Nov 11 2026. No macro, syntax, notation, axiom, sorry.
-/
import Derived.Test.YtakdekkieobbaaaGreatDoorRows
import GoSem.ClaimSeven
namespace Go.Proofs.YtakdekkieobbaaaGreatDoor
namespace Rows

/-- THE TIED CARD OF 'twinrampartlaw2.NodeActs'. -/
def nodeActsCard : Claim7 := { stood := { row := nodeActsRow, standIns := [], harness := (true, "8c4e017a9c4016e08b39ef15521631dad597fbef8e018f0f5f288b6a667c48fa"), looks := true }, kinds := [], alts := [], laidByText := true, laidKinds := [.handle, .sentinel, .sentinel, .sentinel, .sentinel, .sentinel, .sentinel, .sentinel, .sentinel, .sentinel, .sentinel, .sentinel], laidTests := true, laidLooks := .later }
def NodeActsCardSaid : Prop := Claim7.holds Tryz.pinned (.plain (OpenSpec.ofChange nodeActsSpec)) nodeActsCard

/-- THE SECOND FORM's CARD OF 'twinrampartlaw2.NodeActs'. -/
def nodeActsUptoCard : Claim7 := { stood := { row := nodeActsUptoRow, standIns := [], harness := (true, "8c4e017a9c4016e08b39ef15521631dad597fbef8e018f0f5f288b6a667c48fa"), looks := true }, kinds := [], alts := [], laidByText := true, laidKinds := [.handle, .sentinel, .sentinel, .sentinel, .sentinel, .sentinel, .sentinel, .sentinel, .sentinel, .sentinel, .sentinel, .sentinel], laidTests := true, laidLooks := .later }
def NodeActsUptoCardSaid : Prop := Claim7.holds Tryz.pinned (.plain (OpenSpec.upto nodeActsSpec)) nodeActsUptoCard
end Rows
end Go.Proofs.YtakdekkieobbaaaGreatDoor
