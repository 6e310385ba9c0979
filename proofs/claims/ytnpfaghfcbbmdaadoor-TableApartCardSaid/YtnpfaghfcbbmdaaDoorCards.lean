/-
  DERIVED. GIVEN WITH THE SEED: THE CARDS: each row of YtnpfaghfcbbmdaaDoorRows.lean that lists a variable, with what it lists TIED to the program's text (the seventh form; the later family's looks); each row that meets fmt, with fmt's text TOLD by the authors' own Lean function (tested against real Go, not proved from fmt's source: count such statements apart). THE CARD IS WHAT COUNTS. Prove the row's statement (the work); the ties are given (YtnpfaghfcbbmdaaDoorTie.lean); close each card by the builder's one call (the guide's Derived/Test/ToyasCard.lean, 'card_holds'). Laid BY PROGRAM, IN A SANDBOX (cutbox-door.mjs). By AI agents, Wed Nov 11 2026. No macro, syntax, notation, axiom, sorry.
-/
import Derived.Test.YtnpfaghfcbbmdaaDoorRows
import GoSem.ClaimSeven
namespace Go.Proofs.YtnpfaghfcbbmdaaDoor
namespace Rows

/-- THE TIED CARD OF 'twinrampartlaw1.TrackCloses'. -/
def trackClosesCard : Claim7 := { stood := { row := trackClosesRow, standIns := [], harness := (true, "fde7c8b1cfa9d7b34fa9ec1375df98331ae5e76a2807a689901bfd1a667b42a0"), looks := true }, kinds := [], alts := [], laidByText := true, laidKinds := [.sentinel, .sentinel], laidTests := true, laidLooks := .later }
def TrackClosesCardSaid : Prop := Claim7.holds Tryd.pinned (.plain (OpenSpec.ofChange trackClosesSpec)) trackClosesCard

/-- THE TIED CARD OF 'twinrampartlaw1.TrackSteps'. -/
def trackStepsCard : Claim7 := { stood := { row := trackStepsRow, standIns := [], harness := (true, "fde7c8b1cfa9d7b34fa9ec1375df98331ae5e76a2807a689901bfd1a667b42a0"), looks := true }, kinds := [], alts := [], laidByText := true, laidKinds := [.handle, .sentinel, .sentinel, .sentinel, .sentinel, .sentinel, .sentinel, .sentinel, .sentinel, .sentinel, .sentinel, .sentinel], laidTests := true, laidLooks := .later }
def TrackStepsCardSaid : Prop := Claim7.holds Tryd.pinned (.plain (OpenSpec.ofChange trackStepsSpec)) trackStepsCard

/-- THE TIED CARD OF 'twinrampartlaw2.RoleApart'. -/
def roleApartCard : Claim7 := { stood := { row := roleApartRow, standIns := [], harness := (true, "fde7c8b1cfa9d7b34fa9ec1375df98331ae5e76a2807a689901bfd1a667b42a0"), looks := true }, kinds := [], alts := [], laidByText := true, laidKinds := [.sentinel, .sentinel, .sentinel], laidTests := true, laidLooks := .later }
def RoleApartCardSaid : Prop := Claim7.holds Tryd.pinned (.plain (OpenSpec.ofChange roleApartSpec)) roleApartCard

/-- THE TIED CARD OF 'twinrampartlaw2.RoleSilence'. -/
def roleSilenceCard : Claim7 := { stood := { row := roleSilenceRow, standIns := [], harness := (true, "fde7c8b1cfa9d7b34fa9ec1375df98331ae5e76a2807a689901bfd1a667b42a0"), looks := true }, kinds := [], alts := [], laidByText := true, laidKinds := [.sentinel, .sentinel, .sentinel], laidTests := true, laidLooks := .later }
def RoleSilenceCardSaid : Prop := Claim7.holds Tryd.pinned (.plain (OpenSpec.ofChange roleSilenceSpec)) roleSilenceCard

/-- THE TIED CARD OF 'twinrampartlaw2.RoleActs'. -/
def roleActsCard : Claim7 := { stood := { row := roleActsRow, standIns := [], harness := (true, "fde7c8b1cfa9d7b34fa9ec1375df98331ae5e76a2807a689901bfd1a667b42a0"), looks := true }, kinds := [], alts := [], laidByText := true, laidKinds := [.handle, .sentinel, .sentinel, .sentinel, .sentinel, .sentinel, .sentinel, .sentinel, .sentinel, .sentinel, .sentinel, .sentinel], laidTests := true, laidLooks := .later }
def RoleActsCardSaid : Prop := Claim7.holds Tryd.pinned (.plain (OpenSpec.ofChange roleActsSpec)) roleActsCard

/-- THE TIED CARD OF 'twinrampartlaw1.MirrorTurned'. -/
def mirrorTurnedCard : Claim7 := { stood := { row := mirrorTurnedRow, standIns := [], harness := (true, "fde7c8b1cfa9d7b34fa9ec1375df98331ae5e76a2807a689901bfd1a667b42a0"), looks := true }, kinds := [], alts := [], laidByText := true, laidKinds := [.sentinel, .sentinel], laidTests := true, laidLooks := .later }
def MirrorTurnedCardSaid : Prop := Claim7.holds Tryd.pinned (.plain (OpenSpec.ofChange mirrorTurnedSpec)) mirrorTurnedCard

/-- THE TIED CARD OF 'twinrampartlaw1.MirrorTells'. -/
def mirrorTellsCard : Claim7 := { stood := { row := mirrorTellsRow, standIns := [], harness := (true, "fde7c8b1cfa9d7b34fa9ec1375df98331ae5e76a2807a689901bfd1a667b42a0"), looks := true }, kinds := [], alts := [], laidByText := true, laidKinds := [.handle, .sentinel, .sentinel, .sentinel, .sentinel, .sentinel, .sentinel, .sentinel, .sentinel, .sentinel, .sentinel, .sentinel], laidTests := true, laidLooks := .later }
def MirrorTellsCardSaid : Prop := Claim7.holds Tryd.pinned (.plain (OpenSpec.ofChange mirrorTellsSpec)) mirrorTellsCard

/-- THE TIED CARD OF 'twinrampartlaw1.TableApart'. -/
def tableApartCard : Claim7 := { stood := { row := tableApartRow, standIns := [], harness := (true, "fde7c8b1cfa9d7b34fa9ec1375df98331ae5e76a2807a689901bfd1a667b42a0"), looks := true }, kinds := [], alts := [], laidByText := true, laidKinds := [.sentinel, .sentinel, .sentinel, .sentinel], laidTests := true, laidLooks := .later }
def TableApartCardSaid : Prop := Claim7.holds Tryd.pinned (.plain (OpenSpec.ofChange tableApartSpec)) tableApartCard

/-- THE TIED CARD OF 'twinrampartlaw1.TableFills'. -/
def tableFillsCard : Claim7 := { stood := { row := tableFillsRow, standIns := [], harness := (true, "fde7c8b1cfa9d7b34fa9ec1375df98331ae5e76a2807a689901bfd1a667b42a0"), looks := true }, kinds := [], alts := [], laidByText := true, laidKinds := [.handle, .sentinel, .sentinel, .sentinel, .sentinel, .sentinel, .sentinel, .sentinel, .sentinel, .sentinel, .sentinel, .sentinel], laidTests := true, laidLooks := .later }
def TableFillsCardSaid : Prop := Claim7.holds Tryd.pinned (.plain (OpenSpec.ofChange tableFillsSpec)) tableFillsCard

/-- THE SECOND FORM's CARD OF 'twinrampartlaw1.TrackCloses'. -/
def trackClosesUptoCard : Claim7 := { stood := { row := trackClosesUptoRow, standIns := [], harness := (true, "fde7c8b1cfa9d7b34fa9ec1375df98331ae5e76a2807a689901bfd1a667b42a0"), looks := true }, kinds := [], alts := [], laidByText := true, laidKinds := [.sentinel, .sentinel], laidTests := true, laidLooks := .later }
def TrackClosesUptoCardSaid : Prop := Claim7.holds Tryd.pinned (.plain (OpenSpec.upto trackClosesSpec)) trackClosesUptoCard

/-- THE SECOND FORM's CARD OF 'twinrampartlaw1.TrackSteps'. -/
def trackStepsUptoCard : Claim7 := { stood := { row := trackStepsUptoRow, standIns := [], harness := (true, "fde7c8b1cfa9d7b34fa9ec1375df98331ae5e76a2807a689901bfd1a667b42a0"), looks := true }, kinds := [], alts := [], laidByText := true, laidKinds := [.handle, .sentinel, .sentinel, .sentinel, .sentinel, .sentinel, .sentinel, .sentinel, .sentinel, .sentinel, .sentinel, .sentinel], laidTests := true, laidLooks := .later }
def TrackStepsUptoCardSaid : Prop := Claim7.holds Tryd.pinned (.plain (OpenSpec.upto trackStepsSpec)) trackStepsUptoCard

/-- THE SECOND FORM's CARD OF 'twinrampartlaw2.RoleApart'. -/
def roleApartUptoCard : Claim7 := { stood := { row := roleApartUptoRow, standIns := [], harness := (true, "fde7c8b1cfa9d7b34fa9ec1375df98331ae5e76a2807a689901bfd1a667b42a0"), looks := true }, kinds := [], alts := [], laidByText := true, laidKinds := [.sentinel, .sentinel, .sentinel], laidTests := true, laidLooks := .later }
def RoleApartUptoCardSaid : Prop := Claim7.holds Tryd.pinned (.plain (OpenSpec.upto roleApartSpec)) roleApartUptoCard

/-- THE SECOND FORM's CARD OF 'twinrampartlaw2.RoleSilence'. -/
def roleSilenceUptoCard : Claim7 := { stood := { row := roleSilenceUptoRow, standIns := [], harness := (true, "fde7c8b1cfa9d7b34fa9ec1375df98331ae5e76a2807a689901bfd1a667b42a0"), looks := true }, kinds := [], alts := [], laidByText := true, laidKinds := [.sentinel, .sentinel, .sentinel], laidTests := true, laidLooks := .later }
def RoleSilenceUptoCardSaid : Prop := Claim7.holds Tryd.pinned (.plain (OpenSpec.upto roleSilenceSpec)) roleSilenceUptoCard

/-- THE SECOND FORM's CARD OF 'twinrampartlaw2.RoleActs'. -/
def roleActsUptoCard : Claim7 := { stood := { row := roleActsUptoRow, standIns := [], harness := (true, "fde7c8b1cfa9d7b34fa9ec1375df98331ae5e76a2807a689901bfd1a667b42a0"), looks := true }, kinds := [], alts := [], laidByText := true, laidKinds := [.handle, .sentinel, .sentinel, .sentinel, .sentinel, .sentinel, .sentinel, .sentinel, .sentinel, .sentinel, .sentinel, .sentinel], laidTests := true, laidLooks := .later }
def RoleActsUptoCardSaid : Prop := Claim7.holds Tryd.pinned (.plain (OpenSpec.upto roleActsSpec)) roleActsUptoCard

/-- THE SECOND FORM's CARD OF 'twinrampartlaw1.MirrorTurned'. -/
def mirrorTurnedUptoCard : Claim7 := { stood := { row := mirrorTurnedUptoRow, standIns := [], harness := (true, "fde7c8b1cfa9d7b34fa9ec1375df98331ae5e76a2807a689901bfd1a667b42a0"), looks := true }, kinds := [], alts := [], laidByText := true, laidKinds := [.sentinel, .sentinel], laidTests := true, laidLooks := .later }
def MirrorTurnedUptoCardSaid : Prop := Claim7.holds Tryd.pinned (.plain (OpenSpec.upto mirrorTurnedSpec)) mirrorTurnedUptoCard

/-- THE SECOND FORM's CARD OF 'twinrampartlaw1.MirrorTells'. -/
def mirrorTellsUptoCard : Claim7 := { stood := { row := mirrorTellsUptoRow, standIns := [], harness := (true, "fde7c8b1cfa9d7b34fa9ec1375df98331ae5e76a2807a689901bfd1a667b42a0"), looks := true }, kinds := [], alts := [], laidByText := true, laidKinds := [.handle, .sentinel, .sentinel, .sentinel, .sentinel, .sentinel, .sentinel, .sentinel, .sentinel, .sentinel, .sentinel, .sentinel], laidTests := true, laidLooks := .later }
def MirrorTellsUptoCardSaid : Prop := Claim7.holds Tryd.pinned (.plain (OpenSpec.upto mirrorTellsSpec)) mirrorTellsUptoCard

/-- THE SECOND FORM's CARD OF 'twinrampartlaw1.TableApart'. -/
def tableApartUptoCard : Claim7 := { stood := { row := tableApartUptoRow, standIns := [], harness := (true, "fde7c8b1cfa9d7b34fa9ec1375df98331ae5e76a2807a689901bfd1a667b42a0"), looks := true }, kinds := [], alts := [], laidByText := true, laidKinds := [.sentinel, .sentinel, .sentinel, .sentinel], laidTests := true, laidLooks := .later }
def TableApartUptoCardSaid : Prop := Claim7.holds Tryd.pinned (.plain (OpenSpec.upto tableApartSpec)) tableApartUptoCard

/-- THE SECOND FORM's CARD OF 'twinrampartlaw1.TableFills'. -/
def tableFillsUptoCard : Claim7 := { stood := { row := tableFillsUptoRow, standIns := [], harness := (true, "fde7c8b1cfa9d7b34fa9ec1375df98331ae5e76a2807a689901bfd1a667b42a0"), looks := true }, kinds := [], alts := [], laidByText := true, laidKinds := [.handle, .sentinel, .sentinel, .sentinel, .sentinel, .sentinel, .sentinel, .sentinel, .sentinel, .sentinel, .sentinel, .sentinel], laidTests := true, laidLooks := .later }
def TableFillsUptoCardSaid : Prop := Claim7.holds Tryd.pinned (.plain (OpenSpec.upto tableFillsSpec)) tableFillsUptoCard
end Rows
end Go.Proofs.YtnpfaghfcbbmdaaDoor
