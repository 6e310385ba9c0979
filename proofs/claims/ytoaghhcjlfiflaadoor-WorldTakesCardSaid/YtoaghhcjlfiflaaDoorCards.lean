/-
  DERIVED. GIVEN WITH THE SEED: THE CARDS: each row of YtoaghhcjlfiflaaDoorRows.lean that lists a variable, with what it lists TIED to the program's text (the seventh form; the later family's looks); each row that meets fmt, with fmt's text TOLD by the authors' own Lean function (tested against real Go, not proved from fmt's source: count such statements apart). THE CARD IS WHAT COUNTS. Prove the row's statement (the work); the ties are given (YtoaghhcjlfiflaaDoorTie.lean); close each card by the builder's one call (the guide's Derived/Test/ToyasCard.lean, 'card_holds'). Laid BY PROGRAM, IN A SANDBOX (cutbox-door.mjs). By AI agents, Wed Nov 11 2026. No macro, syntax, notation, axiom, sorry.
-/
import Derived.Test.YtoaghhcjlfiflaaDoorRows
import GoSem.ClaimSeven
namespace Go.Proofs.YtoaghhcjlfiflaaDoor
namespace Rows

/-- THE TIED CARD OF 'twinrampartlaw3.WorldTakes'. -/
def worldTakesCard : Claim7 := { stood := { row := worldTakesRow, standIns := [], harness := (true, "4198a224178361eab129480e23fe741aa709866fe0bb34f22625819d5efd6f11"), looks := false }, kinds := [], alts := [], laidByText := true, laidKinds := [.sentinel, .sentinel, .sentinel, .sentinel, .sentinel, .sentinel, .sentinel, .sentinel, .sentinel, .sentinel], laidTests := true, laidLooks := .later }
def WorldTakesCardSaid : Prop := Claim7.holds Tryd.pinned (.plain (OpenSpec.ofChange worldTakesSpec)) worldTakesCard

/-- THE SECOND FORM's CARD OF 'twinrampartlaw3.WorldTakes'. -/
def worldTakesUptoCard : Claim7 := { stood := { row := worldTakesUptoRow, standIns := [], harness := (true, "4198a224178361eab129480e23fe741aa709866fe0bb34f22625819d5efd6f11"), looks := false }, kinds := [], alts := [], laidByText := true, laidKinds := [.sentinel, .sentinel, .sentinel, .sentinel, .sentinel, .sentinel, .sentinel, .sentinel, .sentinel, .sentinel], laidTests := true, laidLooks := .later }
def WorldTakesUptoCardSaid : Prop := Claim7.holds Tryd.pinned (.plain (OpenSpec.upto worldTakesSpec)) worldTakesUptoCard
end Rows
end Go.Proofs.YtoaghhcjlfiflaaDoor
