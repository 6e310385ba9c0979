/-
  NARROWER THAN 'FOR EVERY INPUT', by the rows' own cells (each row's printed sentence says how): WorldTakes: laid.
  DERIVED. THE GIVEN ROWS OF THIS SEAT. 1 by the template 'for every input the law returns true; each argument reads behind the call as it read before'; 0 by the template 'total and deterministic' (their statements: YtoaghhcjlfiflaaDoorTotals.lean).
  GIVEN WITH THE SEED: the statements are not yours to turn. If you find one false, say at which input.
  Laid BY PROGRAM, IN A SANDBOX (cutbox-rows.mjs): the forced cells as the released guide's own fill.sh prints them over the translation a5dc16799dde2148… (all of the seat's roots in one cut). By AI agents, Wed Nov 11 2026. No macro, syntax, notation, axiom, sorry.
-/
import Derived.Test.YtoaghhcjlfiflaaDoorChecked
import GoSem.Claim
import GoSem.ClaimJoined
import GoSem.ClaimMapViews
import Derived.JoinedTies
import Derived.KernelRfl
namespace Go.Proofs.YtoaghhcjlfiflaaDoor
/- THE CELL 'sum', in the pinned program and in every row, IS THE sha256 OF THE DUMP (.gsa) THAT YtoaghhcjlfiflaaDoorProg.lean LOADS. Nothing in Lean hashes anything: it is a label: what it is worth is what the hold of that sum in a sandbox is worth. -/
noncomputable def Tryd.pinned : Pinned := { name := "ytoaghhcjlfiflaadoor", sum := "a5dc16799dde214833a0aae4dc878b01c395b289cce0a27de479e82615793adc", checked := Tryd.checked }
namespace Rows
def none {H : Type} : Left H := { results := [], args := [] }

/- WHAT THE LISTED PACKAGE-LEVEL VARIABLES READ AS WHEN THE CALL BEGINS. Each datum BY PROGRAM (the guide's laid-datum.mjs) off the statement by which the dump's own 'gosem.cut.vars' lays the variable. In a bare row this is a premise. The card (YtoaghhcjlfiflaaDoorCards.lean) ties it to the program's text. -/
def laid_twinrampart_api_ErrBound {H : Type} : DataW H := .iface "*errors.errorString" (.ptr (.agg [.lit (.string [116, 119, 105, 110, 114, 97, 109, 112, 97, 114, 116, 58, 32, 98, 111, 117, 110, 100])]))
def laid_twinrampart_api_ErrShape {H : Type} : DataW H := .iface "*errors.errorString" (.ptr (.agg [.lit (.string [116, 119, 105, 110, 114, 97, 109, 112, 97, 114, 116, 58, 32, 115, 104, 97, 112, 101])]))
def laid_twinrampart_api_ErrNone {H : Type} : DataW H := .iface "*errors.errorString" (.ptr (.agg [.lit (.string [116, 119, 105, 110, 114, 97, 109, 112, 97, 114, 116, 58, 32, 110, 111, 110, 101])]))
def laid_twinrampart_api_ErrExist {H : Type} : DataW H := .iface "*errors.errorString" (.ptr (.agg [.lit (.string [116, 119, 105, 110, 114, 97, 109, 112, 97, 114, 116, 58, 32, 101, 120, 105, 115, 116])]))
def laid_twinrampart_api_ErrFull {H : Type} : DataW H := .iface "*errors.errorString" (.ptr (.agg [.lit (.string [116, 119, 105, 110, 114, 97, 109, 112, 97, 114, 116, 58, 32, 102, 117, 108, 108])]))
def laid_twinrampart_api_ErrOff {H : Type} : DataW H := .iface "*errors.errorString" (.ptr (.agg [.lit (.string [116, 119, 105, 110, 114, 97, 109, 112, 97, 114, 116, 58, 32, 111, 102, 102])]))
def laid_twinrampart_api_ErrDeny {H : Type} : DataW H := .iface "*errors.errorString" (.ptr (.agg [.lit (.string [116, 119, 105, 110, 114, 97, 109, 112, 97, 114, 116, 58, 32, 100, 101, 110, 121])]))
def laid_twinrampart_api_ErrState {H : Type} : DataW H := .iface "*errors.errorString" (.ptr (.agg [.lit (.string [116, 119, 105, 110, 114, 97, 109, 112, 97, 114, 116, 58, 32, 115, 116, 97, 116, 101])]))
def laid_twinrampart_api_ErrOld {H : Type} : DataW H := .iface "*errors.errorString" (.ptr (.agg [.lit (.string [116, 119, 105, 110, 114, 97, 109, 112, 97, 114, 116, 58, 32, 111, 108, 100])]))
def laid_twinrampart_api_ErrHeld {H : Type} : DataW H := .iface "*errors.errorString" (.ptr (.agg [.lit (.string [116, 119, 105, 110, 114, 97, 109, 112, 97, 114, 116, 58, 32, 104, 101, 108, 100])]))

/-- 'twinrampartlaw3.WorldTakes': WHATEVER THE INPUT: true; the input reads as it did. -/
def worldTakesSpec : ChangeSpec := { name := "worldTakes", fn := fun _ => fun
  | [d1, d2, d3, d4] => { results := [.lit (.bool true)], args := [d1, d2, d3, d4] }
  | _ => none }
def worldTakesRow : OpenClaim := { program := "ytoaghhcjlfiflaadoor", sum := "a5dc16799dde214833a0aae4dc878b01c395b289cce0a27de479e82615793adc", func := "twinrampart/twinrampartlaw3.WorldTakes", spec := "worldTakes", unfollowed := true, recurses := true, named := ["twinrampart/api.ErrBound", "twinrampart/api.ErrShape", "twinrampart/api.ErrOff", "twinrampart/api.ErrOld", "twinrampart/api.ErrFull", "twinrampart/api.ErrNone", "twinrampart/api.ErrHeld", "twinrampart/api.ErrExist", "twinrampart/api.ErrState", "twinrampart/api.ErrDeny"], plainKeys := false, apart := false, laid := [("twinrampart/api.ErrBound", laid_twinrampart_api_ErrBound), ("twinrampart/api.ErrShape", laid_twinrampart_api_ErrShape), ("twinrampart/api.ErrNone", laid_twinrampart_api_ErrNone), ("twinrampart/api.ErrExist", laid_twinrampart_api_ErrExist), ("twinrampart/api.ErrFull", laid_twinrampart_api_ErrFull), ("twinrampart/api.ErrOff", laid_twinrampart_api_ErrOff), ("twinrampart/api.ErrDeny", laid_twinrampart_api_ErrDeny), ("twinrampart/api.ErrState", laid_twinrampart_api_ErrState), ("twinrampart/api.ErrOld", laid_twinrampart_api_ErrOld), ("twinrampart/api.ErrHeld", laid_twinrampart_api_ErrHeld)] }
def WorldTakesSaid : Prop := worldTakesRow.holds Tryd.pinned (OpenSpec.ofChange worldTakesSpec)

/-- ITS FALSE NEIGHBOUR: 'it returns false'. Refute it at one input. -/
def worldTakesWrong : ChangeSpec := { name := "worldTakes", fn := fun _ => fun
  | [d1, d2, d3, d4] => { results := [.lit (.bool false)], args := [d1, d2, d3, d4] }
  | _ => none }
def WorldTakesWrongFalsely : Prop := worldTakesRow.holds Tryd.pinned (OpenSpec.ofChange worldTakesWrong)

/- THE SECOND FORM. 'bulk': how many values and letters a reading holds, each counted each time it is reached (what is shared counts as often as it is met; a slice's spare places count too). A statement '..UptoSaid' is the law's where the arguments, and the package variables that the reading takes, are together of bulk at most 1048576: NARROWER than '..Said'. Prove '..Said' where nothing that the law and all that it calls make is longer than what came in: it says more and counts as full. Else prove '..UptoSaid'. A law counts once. -/
mutual
def uptoBulk {H : Type} : DataW H → Nat
  | .lit (.string bytes) => bytes.length + 1
  | .lit _ => 1
  | .nil => 1
  | .ptr d => uptoBulk d + 1
  | .slice elems spare => uptoBulkAll elems + uptoBulkAll spare + 1
  | .agg parts => uptoBulkAll parts + 1
  | .iface _ d => uptoBulk d + 1
  | .map entries => uptoBulkEntries entries + 1
  | .held _ => 1
def uptoBulkAll {H : Type} : List (DataW H) → Nat
  | [] => 0
  | d :: r => uptoBulk d + uptoBulkAll r
def uptoBulkEntries {H : Type} : List (Lit × DataW H) → Nat
  | [] => 0
  | x :: r => uptoBulkEntry x + uptoBulkEntries r
def uptoBulkEntry {H : Type} : Lit × DataW H → Nat
  | (.string bytes, d) => bytes.length + uptoBulk d + 1
  | (_, d) => uptoBulk d + 1
 end
def uptoSmall : (H : Type) → List (DataW H) → Bool := fun _ ds => decide (uptoBulkAll ds ≤ 1048576)
def OpenSpec.upto (s : _root_.Go.ChangeSpec) : _root_.Go.OpenSpec := { _root_.Go.OpenSpec.ofChange s with cond := some uptoSmall }

/-- 'twinrampartlaw3.WorldTakes', WHERE WHAT IT READS IS OF BULK AT MOST 1048576: true; the input reads as it did. -/
def worldTakesUptoRow : OpenClaim := { program := "ytoaghhcjlfiflaadoor", sum := "a5dc16799dde214833a0aae4dc878b01c395b289cce0a27de479e82615793adc", func := "twinrampart/twinrampartlaw3.WorldTakes", spec := "worldTakes", unfollowed := true, recurses := true, named := ["twinrampart/api.ErrBound", "twinrampart/api.ErrShape", "twinrampart/api.ErrOff", "twinrampart/api.ErrOld", "twinrampart/api.ErrFull", "twinrampart/api.ErrNone", "twinrampart/api.ErrHeld", "twinrampart/api.ErrExist", "twinrampart/api.ErrState", "twinrampart/api.ErrDeny"], plainKeys := false, apart := false, laid := [("twinrampart/api.ErrBound", laid_twinrampart_api_ErrBound), ("twinrampart/api.ErrShape", laid_twinrampart_api_ErrShape), ("twinrampart/api.ErrNone", laid_twinrampart_api_ErrNone), ("twinrampart/api.ErrExist", laid_twinrampart_api_ErrExist), ("twinrampart/api.ErrFull", laid_twinrampart_api_ErrFull), ("twinrampart/api.ErrOff", laid_twinrampart_api_ErrOff), ("twinrampart/api.ErrDeny", laid_twinrampart_api_ErrDeny), ("twinrampart/api.ErrState", laid_twinrampart_api_ErrState), ("twinrampart/api.ErrOld", laid_twinrampart_api_ErrOld), ("twinrampart/api.ErrHeld", laid_twinrampart_api_ErrHeld)], narrowed := true }
def WorldTakesUptoSaid : Prop := worldTakesUptoRow.holds Tryd.pinned (OpenSpec.upto worldTakesSpec)

end Rows
end Go.Proofs.YtoaghhcjlfiflaaDoor
