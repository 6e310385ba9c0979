/-
  DERIVED. GIVEN WITH THE SEED: THE CARDS: each row of YtakdekkieobbaaaDoorRows.lean that lists a variable, with what it lists TIED to the program's text (the seventh form; the later family's looks); each row that meets fmt, with fmt's text TOLD by the authors' own Lean function (tested against real Go, not proved from fmt's source: count such statements apart). THE CARD IS WHAT COUNTS. Prove the row's statement (the work); the ties are given (YtakdekkieobbaaaDoorTie.lean); close each card by the builder's one call (the guide's Derived/Test/ToyasCard.lean, 'card_holds'). Laid BY PROGRAM, IN A SANDBOX (cutbox-door.mjs). By AI agents, Wed Nov 11 2026. No macro, syntax, notation, axiom, sorry.
-/
import Derived.Test.YtakdekkieobbaaaDoorRows
import GoSem.ClaimSeven
namespace Go.Proofs.YtakdekkieobbaaaDoor
namespace Rows

/-- THE TIED CARD OF 'twinrampartlaw1.PolicyFirst'. -/
def policyFirstCard : Claim7 := { stood := { row := policyFirstRow, standIns := [], harness := (true, "d05a1bbb7366ebb0e01a4b0d4fbba9effbf26a979a22bf2591dc98eaa1485d58"), looks := true }, kinds := [], alts := [], laidByText := true, laidKinds := [.data, .data, .data, .sentinel, .sentinel, .widerDeep], laidTests := true, laidLooks := .later }
def PolicyFirstCardSaid : Prop := Claim7.holds Tryd.pinned (.plain (OpenSpec.ofChange policyFirstSpec)) policyFirstCard

/-- THE TIED CARD OF 'twinrampartlaw1.PolicyShadow'. -/
def policyShadowCard : Claim7 := { stood := { row := policyShadowRow, standIns := [], harness := (true, "d05a1bbb7366ebb0e01a4b0d4fbba9effbf26a979a22bf2591dc98eaa1485d58"), looks := true }, kinds := [], alts := [], laidByText := true, laidKinds := [.data, .data, .data, .sentinel, .sentinel, .widerDeep], laidTests := true, laidLooks := .later }
def PolicyShadowCardSaid : Prop := Claim7.holds Tryd.pinned (.plain (OpenSpec.ofChange policyShadowSpec)) policyShadowCard

/-- THE TIED CARD OF 'twinrampartlaw1.PolicyAdmits'. -/
def policyAdmitsCard : Claim7 := { stood := { row := policyAdmitsRow, standIns := [], harness := (true, "d05a1bbb7366ebb0e01a4b0d4fbba9effbf26a979a22bf2591dc98eaa1485d58"), looks := true }, kinds := [], alts := [], laidByText := true, laidKinds := [.data, .data, .data, .handle, .sentinel, .sentinel, .sentinel, .sentinel, .sentinel, .sentinel, .sentinel, .sentinel, .sentinel, .sentinel, .sentinel, .widerDeep], laidTests := true, laidLooks := .later }
def PolicyAdmitsCardSaid : Prop := Claim7.holds Tryd.pinned (.plain (OpenSpec.ofChange policyAdmitsSpec)) policyAdmitsCard

/-- THE TIED CARD OF 'twinrampartlaw1.Names'. -/
def namesCard : Claim7 := { stood := { row := namesRow, standIns := [], harness := (true, "d05a1bbb7366ebb0e01a4b0d4fbba9effbf26a979a22bf2591dc98eaa1485d58"), looks := true }, kinds := [], alts := [], laidByText := true, laidKinds := [.handle, .sentinel, .sentinel, .sentinel, .sentinel, .sentinel, .sentinel, .sentinel, .sentinel, .sentinel, .sentinel, .sentinel], laidTests := true, laidLooks := .later }
def NamesCardSaid : Prop := Claim7.holds Tryd.pinned (.plain (OpenSpec.ofChange namesSpec)) namesCard

/-- THE TIED CARD OF 'twinrampartlaw2.NodeLives'. -/
def nodeLivesCard : Claim7 := { stood := { row := nodeLivesRow, standIns := [], harness := (true, "d05a1bbb7366ebb0e01a4b0d4fbba9effbf26a979a22bf2591dc98eaa1485d58"), looks := true }, kinds := [], alts := [], laidByText := true, laidKinds := [.sentinel, .sentinel, .sentinel, .sentinel, .sentinel, .sentinel, .sentinel, .sentinel], laidTests := true, laidLooks := .later }
def NodeLivesCardSaid : Prop := Claim7.holds Tryd.pinned (.plain (OpenSpec.ofChange nodeLivesSpec)) nodeLivesCard

/-- THE TIED CARD OF 'twinrampartlaw2.NodeTimes'. -/
def nodeTimesCard : Claim7 := { stood := { row := nodeTimesRow, standIns := [], harness := (true, "d05a1bbb7366ebb0e01a4b0d4fbba9effbf26a979a22bf2591dc98eaa1485d58"), looks := true }, kinds := [], alts := [], laidByText := true, laidKinds := [.sentinel, .sentinel, .sentinel, .sentinel, .sentinel, .sentinel, .sentinel, .sentinel, .sentinel, .sentinel], laidTests := true, laidLooks := .later }
def NodeTimesCardSaid : Prop := Claim7.holds Tryd.pinned (.plain (OpenSpec.ofChange nodeTimesSpec)) nodeTimesCard

/-- THE TIED CARD OF 'twinrampartlaw2.NodeBack'. -/
def nodeBackCard : Claim7 := { stood := { row := nodeBackRow, standIns := [], harness := (true, "d05a1bbb7366ebb0e01a4b0d4fbba9effbf26a979a22bf2591dc98eaa1485d58"), looks := true }, kinds := [], alts := [], laidByText := true, laidKinds := [.sentinel, .sentinel, .sentinel, .sentinel, .sentinel, .sentinel, .sentinel, .sentinel, .sentinel, .sentinel], laidTests := true, laidLooks := .later }
def NodeBackCardSaid : Prop := Claim7.holds Tryd.pinned (.plain (OpenSpec.ofChange nodeBackSpec)) nodeBackCard

/-- THE SECOND FORM's CARD OF 'twinrampartlaw1.PolicyFirst'. -/
def policyFirstUptoCard : Claim7 := { stood := { row := policyFirstUptoRow, standIns := [], harness := (true, "d05a1bbb7366ebb0e01a4b0d4fbba9effbf26a979a22bf2591dc98eaa1485d58"), looks := true }, kinds := [], alts := [], laidByText := true, laidKinds := [.data, .data, .data, .sentinel, .sentinel, .widerDeep], laidTests := true, laidLooks := .later }
def PolicyFirstUptoCardSaid : Prop := Claim7.holds Tryd.pinned (.plain (OpenSpec.upto policyFirstSpec)) policyFirstUptoCard

/-- THE SECOND FORM's CARD OF 'twinrampartlaw1.PolicyShadow'. -/
def policyShadowUptoCard : Claim7 := { stood := { row := policyShadowUptoRow, standIns := [], harness := (true, "d05a1bbb7366ebb0e01a4b0d4fbba9effbf26a979a22bf2591dc98eaa1485d58"), looks := true }, kinds := [], alts := [], laidByText := true, laidKinds := [.data, .data, .data, .sentinel, .sentinel, .widerDeep], laidTests := true, laidLooks := .later }
def PolicyShadowUptoCardSaid : Prop := Claim7.holds Tryd.pinned (.plain (OpenSpec.upto policyShadowSpec)) policyShadowUptoCard

/-- THE SECOND FORM's CARD OF 'twinrampartlaw1.PolicyAdmits'. -/
def policyAdmitsUptoCard : Claim7 := { stood := { row := policyAdmitsUptoRow, standIns := [], harness := (true, "d05a1bbb7366ebb0e01a4b0d4fbba9effbf26a979a22bf2591dc98eaa1485d58"), looks := true }, kinds := [], alts := [], laidByText := true, laidKinds := [.data, .data, .data, .handle, .sentinel, .sentinel, .sentinel, .sentinel, .sentinel, .sentinel, .sentinel, .sentinel, .sentinel, .sentinel, .sentinel, .widerDeep], laidTests := true, laidLooks := .later }
def PolicyAdmitsUptoCardSaid : Prop := Claim7.holds Tryd.pinned (.plain (OpenSpec.upto policyAdmitsSpec)) policyAdmitsUptoCard

/-- THE SECOND FORM's CARD OF 'twinrampartlaw1.Names'. -/
def namesUptoCard : Claim7 := { stood := { row := namesUptoRow, standIns := [], harness := (true, "d05a1bbb7366ebb0e01a4b0d4fbba9effbf26a979a22bf2591dc98eaa1485d58"), looks := true }, kinds := [], alts := [], laidByText := true, laidKinds := [.handle, .sentinel, .sentinel, .sentinel, .sentinel, .sentinel, .sentinel, .sentinel, .sentinel, .sentinel, .sentinel, .sentinel], laidTests := true, laidLooks := .later }
def NamesUptoCardSaid : Prop := Claim7.holds Tryd.pinned (.plain (OpenSpec.upto namesSpec)) namesUptoCard

/-- THE SECOND FORM's CARD OF 'twinrampartlaw2.NodeLives'. -/
def nodeLivesUptoCard : Claim7 := { stood := { row := nodeLivesUptoRow, standIns := [], harness := (true, "d05a1bbb7366ebb0e01a4b0d4fbba9effbf26a979a22bf2591dc98eaa1485d58"), looks := true }, kinds := [], alts := [], laidByText := true, laidKinds := [.sentinel, .sentinel, .sentinel, .sentinel, .sentinel, .sentinel, .sentinel, .sentinel], laidTests := true, laidLooks := .later }
def NodeLivesUptoCardSaid : Prop := Claim7.holds Tryd.pinned (.plain (OpenSpec.upto nodeLivesSpec)) nodeLivesUptoCard

/-- THE SECOND FORM's CARD OF 'twinrampartlaw2.NodeTimes'. -/
def nodeTimesUptoCard : Claim7 := { stood := { row := nodeTimesUptoRow, standIns := [], harness := (true, "d05a1bbb7366ebb0e01a4b0d4fbba9effbf26a979a22bf2591dc98eaa1485d58"), looks := true }, kinds := [], alts := [], laidByText := true, laidKinds := [.sentinel, .sentinel, .sentinel, .sentinel, .sentinel, .sentinel, .sentinel, .sentinel, .sentinel, .sentinel], laidTests := true, laidLooks := .later }
def NodeTimesUptoCardSaid : Prop := Claim7.holds Tryd.pinned (.plain (OpenSpec.upto nodeTimesSpec)) nodeTimesUptoCard

/-- THE SECOND FORM's CARD OF 'twinrampartlaw2.NodeBack'. -/
def nodeBackUptoCard : Claim7 := { stood := { row := nodeBackUptoRow, standIns := [], harness := (true, "d05a1bbb7366ebb0e01a4b0d4fbba9effbf26a979a22bf2591dc98eaa1485d58"), looks := true }, kinds := [], alts := [], laidByText := true, laidKinds := [.sentinel, .sentinel, .sentinel, .sentinel, .sentinel, .sentinel, .sentinel, .sentinel, .sentinel, .sentinel], laidTests := true, laidLooks := .later }
def NodeBackUptoCardSaid : Prop := Claim7.holds Tryd.pinned (.plain (OpenSpec.upto nodeBackSpec)) nodeBackUptoCard
end Rows
end Go.Proofs.YtakdekkieobbaaaDoor
