/-
  DERIVED. GIVEN WITH THE SEED: THE CARDS: each row of YteakdmngllfodaaDoorRows.lean that lists a variable, with what it lists TIED to the program's text (the seventh form; the later family's looks); each row that meets fmt, with fmt's text TOLD by the authors' own Lean function (tested against real Go, not proved from fmt's source: count such statements apart). THE CARD IS WHAT COUNTS. Prove the row's statement (the work); the ties are given (YteakdmngllfodaaDoorTie.lean); close each card by the builder's one call (the guide's Derived/Test/ToyasCard.lean, 'card_holds'). Laid BY PROGRAM, IN A SANDBOX (cutbox-door.mjs). By AI agents, Wed Nov 11 2026. No macro, syntax, notation, axiom, sorry.
-/
import Derived.Test.YteakdmngllfodaaDoorRows
import GoSem.ClaimSeven
namespace Go.Proofs.YteakdmngllfodaaDoor
namespace Rows

/-- THE TIED CARD OF 'twinrampartlaw1.TellerNext'. -/
def tellerNextCard : Claim7 := { stood := { row := tellerNextRow, standIns := [], harness := (true, "80385617578b4b784b36846464ae55acfe4a56cfe5039f318d2a1357920f44e4"), looks := true }, kinds := [], alts := [], laidByText := true, laidKinds := [.sentinel, .sentinel, .sentinel, .sentinel], laidTests := true, laidLooks := .later }
def TellerNextCardSaid : Prop := Claim7.holds Tryd.pinned (.plain (OpenSpec.ofChange tellerNextSpec)) tellerNextCard

/-- THE TIED CARD OF 'twinrampartlaw1.TellerSoon'. -/
def tellerSoonCard : Claim7 := { stood := { row := tellerSoonRow, standIns := [], harness := (true, "80385617578b4b784b36846464ae55acfe4a56cfe5039f318d2a1357920f44e4"), looks := true }, kinds := [], alts := [], laidByText := true, laidKinds := [.sentinel, .sentinel, .sentinel, .sentinel], laidTests := true, laidLooks := .later }
def TellerSoonCardSaid : Prop := Claim7.holds Tryd.pinned (.plain (OpenSpec.ofChange tellerSoonSpec)) tellerSoonCard

/-- THE TIED CARD OF 'twinrampartlaw1.TellerAll'. -/
def tellerAllCard : Claim7 := { stood := { row := tellerAllRow, standIns := [], harness := (true, "80385617578b4b784b36846464ae55acfe4a56cfe5039f318d2a1357920f44e4"), looks := true }, kinds := [], alts := [], laidByText := true, laidKinds := [.sentinel, .sentinel, .sentinel, .sentinel, .sentinel], laidTests := true, laidLooks := .later }
def TellerAllCardSaid : Prop := Claim7.holds Tryd.pinned (.plain (OpenSpec.ofChange tellerAllSpec)) tellerAllCard

/-- THE TIED CARD OF 'twinrampartlaw1.TableActs'. -/
def tableActsCard : Claim7 := { stood := { row := tableActsRow, standIns := [], harness := (true, "80385617578b4b784b36846464ae55acfe4a56cfe5039f318d2a1357920f44e4"), looks := true }, kinds := [], alts := [], laidByText := true, laidKinds := [.handle, .sentinel, .sentinel, .sentinel, .sentinel, .sentinel, .sentinel, .sentinel, .sentinel, .sentinel, .sentinel, .sentinel], laidTests := true, laidLooks := .later }
def TableActsCardSaid : Prop := Claim7.holds Tryd.pinned (.plain (OpenSpec.ofChange tableActsSpec)) tableActsCard

/-- THE TIED CARD OF 'twinrampartlaw2.CellCuts'. -/
def cellCutsCard : Claim7 := { stood := { row := cellCutsRow, standIns := [], harness := (true, "80385617578b4b784b36846464ae55acfe4a56cfe5039f318d2a1357920f44e4"), looks := true }, kinds := [], alts := [], laidByText := true, laidKinds := [.handle, .sentinel, .sentinel, .sentinel, .sentinel, .sentinel, .sentinel, .sentinel, .sentinel, .sentinel, .sentinel, .sentinel], laidTests := true, laidLooks := .later }
def CellCutsCardSaid : Prop := Claim7.holds Tryd.pinned (.plain (OpenSpec.ofChange cellCutsSpec)) cellCutsCard

/-- THE TIED CARD OF 'twinrampartlaw2.CellActs'. -/
def cellActsCard : Claim7 := { stood := { row := cellActsRow, standIns := [], harness := (true, "80385617578b4b784b36846464ae55acfe4a56cfe5039f318d2a1357920f44e4"), looks := true }, kinds := [], alts := [], laidByText := true, laidKinds := [.handle, .sentinel, .sentinel, .sentinel, .sentinel, .sentinel, .sentinel, .sentinel, .sentinel, .sentinel, .sentinel, .sentinel], laidTests := true, laidLooks := .later }
def CellActsCardSaid : Prop := Claim7.holds Tryd.pinned (.plain (OpenSpec.ofChange cellActsSpec)) cellActsCard

/-- THE SECOND FORM's CARD OF 'twinrampartlaw1.TellerNext'. -/
def tellerNextUptoCard : Claim7 := { stood := { row := tellerNextUptoRow, standIns := [], harness := (true, "80385617578b4b784b36846464ae55acfe4a56cfe5039f318d2a1357920f44e4"), looks := true }, kinds := [], alts := [], laidByText := true, laidKinds := [.sentinel, .sentinel, .sentinel, .sentinel], laidTests := true, laidLooks := .later }
def TellerNextUptoCardSaid : Prop := Claim7.holds Tryd.pinned (.plain (OpenSpec.upto tellerNextSpec)) tellerNextUptoCard

/-- THE SECOND FORM's CARD OF 'twinrampartlaw1.TellerSoon'. -/
def tellerSoonUptoCard : Claim7 := { stood := { row := tellerSoonUptoRow, standIns := [], harness := (true, "80385617578b4b784b36846464ae55acfe4a56cfe5039f318d2a1357920f44e4"), looks := true }, kinds := [], alts := [], laidByText := true, laidKinds := [.sentinel, .sentinel, .sentinel, .sentinel], laidTests := true, laidLooks := .later }
def TellerSoonUptoCardSaid : Prop := Claim7.holds Tryd.pinned (.plain (OpenSpec.upto tellerSoonSpec)) tellerSoonUptoCard

/-- THE SECOND FORM's CARD OF 'twinrampartlaw1.TellerAll'. -/
def tellerAllUptoCard : Claim7 := { stood := { row := tellerAllUptoRow, standIns := [], harness := (true, "80385617578b4b784b36846464ae55acfe4a56cfe5039f318d2a1357920f44e4"), looks := true }, kinds := [], alts := [], laidByText := true, laidKinds := [.sentinel, .sentinel, .sentinel, .sentinel, .sentinel], laidTests := true, laidLooks := .later }
def TellerAllUptoCardSaid : Prop := Claim7.holds Tryd.pinned (.plain (OpenSpec.upto tellerAllSpec)) tellerAllUptoCard

/-- THE SECOND FORM's CARD OF 'twinrampartlaw1.TableActs'. -/
def tableActsUptoCard : Claim7 := { stood := { row := tableActsUptoRow, standIns := [], harness := (true, "80385617578b4b784b36846464ae55acfe4a56cfe5039f318d2a1357920f44e4"), looks := true }, kinds := [], alts := [], laidByText := true, laidKinds := [.handle, .sentinel, .sentinel, .sentinel, .sentinel, .sentinel, .sentinel, .sentinel, .sentinel, .sentinel, .sentinel, .sentinel], laidTests := true, laidLooks := .later }
def TableActsUptoCardSaid : Prop := Claim7.holds Tryd.pinned (.plain (OpenSpec.upto tableActsSpec)) tableActsUptoCard

/-- THE SECOND FORM's CARD OF 'twinrampartlaw2.CellCuts'. -/
def cellCutsUptoCard : Claim7 := { stood := { row := cellCutsUptoRow, standIns := [], harness := (true, "80385617578b4b784b36846464ae55acfe4a56cfe5039f318d2a1357920f44e4"), looks := true }, kinds := [], alts := [], laidByText := true, laidKinds := [.handle, .sentinel, .sentinel, .sentinel, .sentinel, .sentinel, .sentinel, .sentinel, .sentinel, .sentinel, .sentinel, .sentinel], laidTests := true, laidLooks := .later }
def CellCutsUptoCardSaid : Prop := Claim7.holds Tryd.pinned (.plain (OpenSpec.upto cellCutsSpec)) cellCutsUptoCard

/-- THE SECOND FORM's CARD OF 'twinrampartlaw2.CellActs'. -/
def cellActsUptoCard : Claim7 := { stood := { row := cellActsUptoRow, standIns := [], harness := (true, "80385617578b4b784b36846464ae55acfe4a56cfe5039f318d2a1357920f44e4"), looks := true }, kinds := [], alts := [], laidByText := true, laidKinds := [.handle, .sentinel, .sentinel, .sentinel, .sentinel, .sentinel, .sentinel, .sentinel, .sentinel, .sentinel, .sentinel, .sentinel], laidTests := true, laidLooks := .later }
def CellActsUptoCardSaid : Prop := Claim7.holds Tryd.pinned (.plain (OpenSpec.upto cellActsSpec)) cellActsUptoCard
end Rows
end Go.Proofs.YteakdmngllfodaaDoor
