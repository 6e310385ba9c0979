/-
  NARROWER THAN 'FOR EVERY INPUT', by the rows' own cells (each row's printed sentence says how): WorldOne: laid · WorldApart: laid · WorldMirrors: laid · WorldSteps: laid · PlayAgain: laid · PlayRuns: laid.
  DERIVED. THE GIVEN ROWS OF THIS SEAT. 6 by the template 'for every input the law returns true; each argument reads behind the call as it read before'; 0 by the template 'total and deterministic' (their statements: YtoaghhcjlfiflaaGreatDoorTotals.lean).
  GIVEN WITH THE SEED: the statements are not yours to turn. If you find one false, say at which input.
  Laid BY PROGRAM, IN A SANDBOX (cutbox-rows.mjs): the forced cells as the released guide's own fill.sh prints them over the translation 6410bdf66a4caebe… (all of the seat's roots in one cut). By AI agents, Wed Nov 11 2026. No macro, syntax, notation, axiom, sorry.
-/
import Derived.Test.YtoaghhcjlfiflaaGreatDoorChecked
import GoSem.Claim
import GoSem.ClaimJoined
import GoSem.ClaimMapViews
import Derived.JoinedTies
import Derived.KernelRfl
namespace Go.Proofs.YtoaghhcjlfiflaaGreatDoor
/- THE CELL 'sum', in the pinned program and in every row, IS THE sha256 OF THE DUMP (.gsa) THAT YtoaghhcjlfiflaaGreatDoorProg.lean LOADS. Nothing in Lean hashes anything: it is a label: what it is worth is what the hold of that sum in a sandbox is worth. -/
noncomputable def Tryz.pinned : Pinned := { name := "ytoaghhcjlfiflaagreatdoor", sum := "6410bdf66a4caebecfe9ef532d3f43d0808e2497dc763849eda91ee79294fd95", checked := Tryz.checked }
namespace Rows
def none {H : Type} : Left H := { results := [], args := [] }

/- WHAT THE LISTED PACKAGE-LEVEL VARIABLES READ AS WHEN THE CALL BEGINS. Each datum BY PROGRAM (the guide's laid-datum.mjs) off the statement by which the dump's own 'gosem.cut.vars' lays the variable. In a bare row this is a premise. The card (YtoaghhcjlfiflaaGreatDoorCards.lean) ties it to the program's text. -/
def laid_twinrampart_api_ErrBound {H : Type} : DataW H := .iface "*errors.errorString" (.ptr (.agg [.lit (.string [116, 119, 105, 110, 114, 97, 109, 112, 97, 114, 116, 58, 32, 98, 111, 117, 110, 100])]))
def laid_twinrampart_api_ErrShape {H : Type} : DataW H := .iface "*errors.errorString" (.ptr (.agg [.lit (.string [116, 119, 105, 110, 114, 97, 109, 112, 97, 114, 116, 58, 32, 115, 104, 97, 112, 101])]))
def laid_twinrampart_api_ErrNone {H : Type} : DataW H := .iface "*errors.errorString" (.ptr (.agg [.lit (.string [116, 119, 105, 110, 114, 97, 109, 112, 97, 114, 116, 58, 32, 110, 111, 110, 101])]))
def laid_twinrampart_api_ErrExist {H : Type} : DataW H := .iface "*errors.errorString" (.ptr (.agg [.lit (.string [116, 119, 105, 110, 114, 97, 109, 112, 97, 114, 116, 58, 32, 101, 120, 105, 115, 116])]))
def laid_twinrampart_api_ErrFull {H : Type} : DataW H := .iface "*errors.errorString" (.ptr (.agg [.lit (.string [116, 119, 105, 110, 114, 97, 109, 112, 97, 114, 116, 58, 32, 102, 117, 108, 108])]))
def laid_twinrampart_api_ErrOff {H : Type} : DataW H := .iface "*errors.errorString" (.ptr (.agg [.lit (.string [116, 119, 105, 110, 114, 97, 109, 112, 97, 114, 116, 58, 32, 111, 102, 102])]))
def laid_twinrampart_api_ErrDeny {H : Type} : DataW H := .iface "*errors.errorString" (.ptr (.agg [.lit (.string [116, 119, 105, 110, 114, 97, 109, 112, 97, 114, 116, 58, 32, 100, 101, 110, 121])]))
def laid_twinrampart_api_ErrState {H : Type} : DataW H := .iface "*errors.errorString" (.ptr (.agg [.lit (.string [116, 119, 105, 110, 114, 97, 109, 112, 97, 114, 116, 58, 32, 115, 116, 97, 116, 101])]))
def laid_twinrampart_api_ErrOld {H : Type} : DataW H := .iface "*errors.errorString" (.ptr (.agg [.lit (.string [116, 119, 105, 110, 114, 97, 109, 112, 97, 114, 116, 58, 32, 111, 108, 100])]))
def laid_twinrampart_api_ErrHeld {H : Type} : DataW H := .iface "*errors.errorString" (.ptr (.agg [.lit (.string [116, 119, 105, 110, 114, 97, 109, 112, 97, 114, 116, 58, 32, 104, 101, 108, 100])]))
def laid_errors_errorType {H : Type} : DataW H := .iface "internal/reflectlite.rtype" (.agg [.ptr (.lit (.string [101, 114, 114, 111, 114]))])
def laid_twinrampart_api_ErrText {H : Type} : DataW H := .iface "*errors.errorString" (.ptr (.agg [.lit (.string [116, 119, 105, 110, 114, 97, 109, 112, 97, 114, 116, 58, 32, 116, 101, 120, 116])]))

/-- 'twinrampartlaw3.WorldOne': WHATEVER THE INPUT: true; the input reads as it did. -/
def worldOneSpec : ChangeSpec := { name := "worldOne", fn := fun _ => fun
  | [d1, d2, d3] => { results := [.lit (.bool true)], args := [d1, d2, d3] }
  | _ => none }
def worldOneRow : OpenClaim := { program := "ytoaghhcjlfiflaagreatdoor", sum := "6410bdf66a4caebecfe9ef532d3f43d0808e2497dc763849eda91ee79294fd95", func := "twinrampart/twinrampartlaw3.WorldOne", spec := "worldOne", inPlace := ["slices.overlaps[twinrampart/node.Note]"], unfollowed := true, recurses := true, named := ["twinrampart/api.ErrBound", "twinrampart/api.ErrShape", "twinrampart/api.ErrOff", "twinrampart/api.ErrOld", "twinrampart/api.ErrFull", "twinrampart/api.ErrNone", "twinrampart/api.ErrHeld", "twinrampart/api.ErrExist", "twinrampart/api.ErrState", "twinrampart/api.ErrDeny"], plainKeys := false, apart := false, laid := [("twinrampart/api.ErrBound", laid_twinrampart_api_ErrBound), ("twinrampart/api.ErrShape", laid_twinrampart_api_ErrShape), ("twinrampart/api.ErrNone", laid_twinrampart_api_ErrNone), ("twinrampart/api.ErrExist", laid_twinrampart_api_ErrExist), ("twinrampart/api.ErrFull", laid_twinrampart_api_ErrFull), ("twinrampart/api.ErrOff", laid_twinrampart_api_ErrOff), ("twinrampart/api.ErrDeny", laid_twinrampart_api_ErrDeny), ("twinrampart/api.ErrState", laid_twinrampart_api_ErrState), ("twinrampart/api.ErrOld", laid_twinrampart_api_ErrOld), ("twinrampart/api.ErrHeld", laid_twinrampart_api_ErrHeld)] }
def WorldOneSaid : Prop := worldOneRow.holds Tryz.pinned (OpenSpec.ofChange worldOneSpec)

/-- ITS FALSE NEIGHBOUR: 'it returns false'. Refute it at one input. -/
def worldOneWrong : ChangeSpec := { name := "worldOne", fn := fun _ => fun
  | [d1, d2, d3] => { results := [.lit (.bool false)], args := [d1, d2, d3] }
  | _ => none }
def WorldOneWrongFalsely : Prop := worldOneRow.holds Tryz.pinned (OpenSpec.ofChange worldOneWrong)

/-- 'twinrampartlaw3.WorldApart': WHATEVER THE INPUT: true; the input reads as it did. -/
def worldApartSpec : ChangeSpec := { name := "worldApart", fn := fun _ => fun
  | [d1, d2] => { results := [.lit (.bool true)], args := [d1, d2] }
  | _ => none }
def worldApartRow : OpenClaim := { program := "ytoaghhcjlfiflaagreatdoor", sum := "6410bdf66a4caebecfe9ef532d3f43d0808e2497dc763849eda91ee79294fd95", func := "twinrampart/twinrampartlaw3.WorldApart", spec := "worldApart", inPlace := ["slices.overlaps[twinrampart/node.Note]"], unfollowed := true, recurses := true, named := ["twinrampart/api.ErrBound", "twinrampart/api.ErrShape", "twinrampart/api.ErrOff", "twinrampart/api.ErrOld", "twinrampart/api.ErrFull", "twinrampart/api.ErrNone", "twinrampart/api.ErrHeld", "twinrampart/api.ErrExist", "twinrampart/api.ErrState", "twinrampart/api.ErrDeny"], plainKeys := false, apart := false, laid := [("twinrampart/api.ErrBound", laid_twinrampart_api_ErrBound), ("twinrampart/api.ErrShape", laid_twinrampart_api_ErrShape), ("twinrampart/api.ErrNone", laid_twinrampart_api_ErrNone), ("twinrampart/api.ErrExist", laid_twinrampart_api_ErrExist), ("twinrampart/api.ErrFull", laid_twinrampart_api_ErrFull), ("twinrampart/api.ErrOff", laid_twinrampart_api_ErrOff), ("twinrampart/api.ErrDeny", laid_twinrampart_api_ErrDeny), ("twinrampart/api.ErrState", laid_twinrampart_api_ErrState), ("twinrampart/api.ErrOld", laid_twinrampart_api_ErrOld), ("twinrampart/api.ErrHeld", laid_twinrampart_api_ErrHeld)] }
def WorldApartSaid : Prop := worldApartRow.holds Tryz.pinned (OpenSpec.ofChange worldApartSpec)

/-- ITS FALSE NEIGHBOUR: 'it returns false'. Refute it at one input. -/
def worldApartWrong : ChangeSpec := { name := "worldApart", fn := fun _ => fun
  | [d1, d2] => { results := [.lit (.bool false)], args := [d1, d2] }
  | _ => none }
def WorldApartWrongFalsely : Prop := worldApartRow.holds Tryz.pinned (OpenSpec.ofChange worldApartWrong)

/-- 'twinrampartlaw3.WorldMirrors': WHATEVER THE INPUT: true; the input reads as it did. -/
def worldMirrorsSpec : ChangeSpec := { name := "worldMirrors", fn := fun _ => fun
  | [d1, d2, d3] => { results := [.lit (.bool true)], args := [d1, d2, d3] }
  | _ => none }
def worldMirrorsRow : OpenClaim := { program := "ytoaghhcjlfiflaagreatdoor", sum := "6410bdf66a4caebecfe9ef532d3f43d0808e2497dc763849eda91ee79294fd95", func := "twinrampart/twinrampartlaw3.WorldMirrors", spec := "worldMirrors", inPlace := ["slices.overlaps[twinrampart/node.Note]"], unfollowed := true, recurses := true, named := ["twinrampart/api.ErrBound", "twinrampart/api.ErrShape", "twinrampart/api.ErrOff", "twinrampart/api.ErrOld", "twinrampart/api.ErrFull", "twinrampart/api.ErrNone", "twinrampart/api.ErrHeld", "twinrampart/api.ErrExist", "twinrampart/api.ErrState", "twinrampart/api.ErrDeny"], plainKeys := false, apart := false, laid := [("twinrampart/api.ErrBound", laid_twinrampart_api_ErrBound), ("twinrampart/api.ErrShape", laid_twinrampart_api_ErrShape), ("twinrampart/api.ErrNone", laid_twinrampart_api_ErrNone), ("twinrampart/api.ErrExist", laid_twinrampart_api_ErrExist), ("twinrampart/api.ErrFull", laid_twinrampart_api_ErrFull), ("twinrampart/api.ErrOff", laid_twinrampart_api_ErrOff), ("twinrampart/api.ErrDeny", laid_twinrampart_api_ErrDeny), ("twinrampart/api.ErrState", laid_twinrampart_api_ErrState), ("twinrampart/api.ErrOld", laid_twinrampart_api_ErrOld), ("twinrampart/api.ErrHeld", laid_twinrampart_api_ErrHeld)] }
def WorldMirrorsSaid : Prop := worldMirrorsRow.holds Tryz.pinned (OpenSpec.ofChange worldMirrorsSpec)

/-- ITS FALSE NEIGHBOUR: 'it returns false'. Refute it at one input. -/
def worldMirrorsWrong : ChangeSpec := { name := "worldMirrors", fn := fun _ => fun
  | [d1, d2, d3] => { results := [.lit (.bool false)], args := [d1, d2, d3] }
  | _ => none }
def WorldMirrorsWrongFalsely : Prop := worldMirrorsRow.holds Tryz.pinned (OpenSpec.ofChange worldMirrorsWrong)

/-- 'twinrampartlaw3.WorldSteps': WHATEVER THE INPUT: true; the input reads as it did. -/
def worldStepsSpec : ChangeSpec := { name := "worldSteps", fn := fun _ => fun
  | [d1, d2] => { results := [.lit (.bool true)], args := [d1, d2] }
  | _ => none }
def worldStepsRow : OpenClaim := { program := "ytoaghhcjlfiflaagreatdoor", sum := "6410bdf66a4caebecfe9ef532d3f43d0808e2497dc763849eda91ee79294fd95", func := "twinrampart/twinrampartlaw3.WorldSteps", spec := "worldSteps", inPlace := ["internal/reflectlite.ValueOf", "(internal/reflectlite.Value).Type", "(internal/reflectlite.Value).IsNil", "internal/reflectlite.TypeOf", "(internal/reflectlite.Value).Elem", "(internal/reflectlite.Value).Set", "slices.overlaps[twinrampart/node.Note]"], unfollowed := true, recurses := true, named := ["twinrampart/api.ErrBound", "twinrampart/api.ErrShape", "twinrampart/api.ErrOff", "twinrampart/api.ErrOld", "twinrampart/api.ErrFull", "twinrampart/api.ErrNone", "twinrampart/api.ErrHeld", "twinrampart/api.ErrExist", "twinrampart/api.ErrText", "twinrampart/api.ErrDeny", "twinrampart/api.ErrState", "errors.errorType"], plainKeys := false, apart := false, laid := [("errors.errorType", laid_errors_errorType), ("twinrampart/api.ErrText", laid_twinrampart_api_ErrText), ("twinrampart/api.ErrBound", laid_twinrampart_api_ErrBound), ("twinrampart/api.ErrShape", laid_twinrampart_api_ErrShape), ("twinrampart/api.ErrNone", laid_twinrampart_api_ErrNone), ("twinrampart/api.ErrExist", laid_twinrampart_api_ErrExist), ("twinrampart/api.ErrFull", laid_twinrampart_api_ErrFull), ("twinrampart/api.ErrOff", laid_twinrampart_api_ErrOff), ("twinrampart/api.ErrDeny", laid_twinrampart_api_ErrDeny), ("twinrampart/api.ErrState", laid_twinrampart_api_ErrState), ("twinrampart/api.ErrOld", laid_twinrampart_api_ErrOld), ("twinrampart/api.ErrHeld", laid_twinrampart_api_ErrHeld)] }
def WorldStepsSaid : Prop := worldStepsRow.holds Tryz.pinned (OpenSpec.ofChange worldStepsSpec)

/-- ITS FALSE NEIGHBOUR: 'it returns false'. Refute it at one input. -/
def worldStepsWrong : ChangeSpec := { name := "worldSteps", fn := fun _ => fun
  | [d1, d2] => { results := [.lit (.bool false)], args := [d1, d2] }
  | _ => none }
def WorldStepsWrongFalsely : Prop := worldStepsRow.holds Tryz.pinned (OpenSpec.ofChange worldStepsWrong)

/-- 'twinrampartlaw3.PlayAgain': WHATEVER THE INPUT: true; the input reads as it did. -/
def playAgainSpec : ChangeSpec := { name := "playAgain", fn := fun _ => fun
  | [d1, d2, d3] => { results := [.lit (.bool true)], args := [d1, d2, d3] }
  | _ => none }
def playAgainRow : OpenClaim := { program := "ytoaghhcjlfiflaagreatdoor", sum := "6410bdf66a4caebecfe9ef532d3f43d0808e2497dc763849eda91ee79294fd95", func := "twinrampart/twinrampartlaw3.PlayAgain", spec := "playAgain", inPlace := ["slices.overlaps[twinrampart/node.Note]", "internal/reflectlite.ValueOf", "(internal/reflectlite.Value).Type", "(internal/reflectlite.Value).IsNil", "internal/reflectlite.TypeOf", "(internal/reflectlite.Value).Elem", "(internal/reflectlite.Value).Set"], unfollowed := true, recurses := true, named := ["twinrampart/api.ErrBound", "twinrampart/api.ErrShape", "twinrampart/api.ErrOff", "twinrampart/api.ErrOld", "twinrampart/api.ErrFull", "twinrampart/api.ErrNone", "twinrampart/api.ErrHeld", "twinrampart/api.ErrExist", "twinrampart/api.ErrState", "twinrampart/api.ErrDeny", "twinrampart/api.ErrText", "errors.errorType"], plainKeys := false, apart := false, laid := [("errors.errorType", laid_errors_errorType), ("twinrampart/api.ErrText", laid_twinrampart_api_ErrText), ("twinrampart/api.ErrBound", laid_twinrampart_api_ErrBound), ("twinrampart/api.ErrShape", laid_twinrampart_api_ErrShape), ("twinrampart/api.ErrNone", laid_twinrampart_api_ErrNone), ("twinrampart/api.ErrExist", laid_twinrampart_api_ErrExist), ("twinrampart/api.ErrFull", laid_twinrampart_api_ErrFull), ("twinrampart/api.ErrOff", laid_twinrampart_api_ErrOff), ("twinrampart/api.ErrDeny", laid_twinrampart_api_ErrDeny), ("twinrampart/api.ErrState", laid_twinrampart_api_ErrState), ("twinrampart/api.ErrOld", laid_twinrampart_api_ErrOld), ("twinrampart/api.ErrHeld", laid_twinrampart_api_ErrHeld)] }
def PlayAgainSaid : Prop := playAgainRow.holds Tryz.pinned (OpenSpec.ofChange playAgainSpec)

/-- ITS FALSE NEIGHBOUR: 'it returns false'. Refute it at one input. -/
def playAgainWrong : ChangeSpec := { name := "playAgain", fn := fun _ => fun
  | [d1, d2, d3] => { results := [.lit (.bool false)], args := [d1, d2, d3] }
  | _ => none }
def PlayAgainWrongFalsely : Prop := playAgainRow.holds Tryz.pinned (OpenSpec.ofChange playAgainWrong)

/-- 'twinrampartlaw3.PlayRuns': WHATEVER THE INPUT: true; the input reads as it did. -/
def playRunsSpec : ChangeSpec := { name := "playRuns", fn := fun _ => fun
  | [d1, d2, d3] => { results := [.lit (.bool true)], args := [d1, d2, d3] }
  | _ => none }
def playRunsRow : OpenClaim := { program := "ytoaghhcjlfiflaagreatdoor", sum := "6410bdf66a4caebecfe9ef532d3f43d0808e2497dc763849eda91ee79294fd95", func := "twinrampart/twinrampartlaw3.PlayRuns", spec := "playRuns", inPlace := ["slices.overlaps[twinrampart/node.Note]", "internal/reflectlite.ValueOf", "(internal/reflectlite.Value).Type", "(internal/reflectlite.Value).IsNil", "internal/reflectlite.TypeOf", "(internal/reflectlite.Value).Elem", "(internal/reflectlite.Value).Set"], unfollowed := true, recurses := true, named := ["twinrampart/api.ErrBound", "twinrampart/api.ErrShape", "twinrampart/api.ErrOff", "twinrampart/api.ErrOld", "twinrampart/api.ErrFull", "twinrampart/api.ErrNone", "twinrampart/api.ErrHeld", "twinrampart/api.ErrExist", "twinrampart/api.ErrState", "twinrampart/api.ErrDeny", "twinrampart/api.ErrText", "errors.errorType"], plainKeys := false, apart := false, laid := [("errors.errorType", laid_errors_errorType), ("twinrampart/api.ErrText", laid_twinrampart_api_ErrText), ("twinrampart/api.ErrBound", laid_twinrampart_api_ErrBound), ("twinrampart/api.ErrShape", laid_twinrampart_api_ErrShape), ("twinrampart/api.ErrNone", laid_twinrampart_api_ErrNone), ("twinrampart/api.ErrExist", laid_twinrampart_api_ErrExist), ("twinrampart/api.ErrFull", laid_twinrampart_api_ErrFull), ("twinrampart/api.ErrOff", laid_twinrampart_api_ErrOff), ("twinrampart/api.ErrDeny", laid_twinrampart_api_ErrDeny), ("twinrampart/api.ErrState", laid_twinrampart_api_ErrState), ("twinrampart/api.ErrOld", laid_twinrampart_api_ErrOld), ("twinrampart/api.ErrHeld", laid_twinrampart_api_ErrHeld)] }
def PlayRunsSaid : Prop := playRunsRow.holds Tryz.pinned (OpenSpec.ofChange playRunsSpec)

/-- ITS FALSE NEIGHBOUR: 'it returns false'. Refute it at one input. -/
def playRunsWrong : ChangeSpec := { name := "playRuns", fn := fun _ => fun
  | [d1, d2, d3] => { results := [.lit (.bool false)], args := [d1, d2, d3] }
  | _ => none }
def PlayRunsWrongFalsely : Prop := playRunsRow.holds Tryz.pinned (OpenSpec.ofChange playRunsWrong)

/- THE SECOND FORM. 'bulk': how many values and letters a reading holds, each counted each time it is reached (what is shared counts as often as it is met; a slice's spare places count too). A statement '..UptoSaid' is the law's where the arguments, and the package variables that the reading takes, are together of bulk at most 1048576: NARROWER than '..Said'. Prove '..Said' where nothing that the law and all that it calls make is longer than what came in: it says more and counts as full. Else prove '..UptoSaid'. A law counts once. -/
mutual
def uptoBulk {H : Type} : DataW H → Nat
  | .lit (.string bytes) => bytes.length + 1
  | .lit _ => 1
  | .nil => 1
  | .ptr d => uptoBulk d + 1
  | .slice elems spare => uptoBulkAll elems + uptoBulkAll spare + 1
  | .agg parts => uptoBulkAll parts + 1
  | .iface _ d => uptoBulk d + 1
  | .map entries => uptoBulkEntries entries + 1
  | .held _ => 1
def uptoBulkAll {H : Type} : List (DataW H) → Nat
  | [] => 0
  | d :: r => uptoBulk d + uptoBulkAll r
def uptoBulkEntries {H : Type} : List (Lit × DataW H) → Nat
  | [] => 0
  | x :: r => uptoBulkEntry x + uptoBulkEntries r
def uptoBulkEntry {H : Type} : Lit × DataW H → Nat
  | (.string bytes, d) => bytes.length + uptoBulk d + 1
  | (_, d) => uptoBulk d + 1
 end
def uptoSmall : (H : Type) → List (DataW H) → Bool := fun _ ds => decide (uptoBulkAll ds ≤ 1048576)
def OpenSpec.upto (s : _root_.Go.ChangeSpec) : _root_.Go.OpenSpec := { _root_.Go.OpenSpec.ofChange s with cond := some uptoSmall }

/-- 'twinrampartlaw3.WorldOne', WHERE WHAT IT READS IS OF BULK AT MOST 1048576: true; the input reads as it did. -/
def worldOneUptoRow : OpenClaim := { program := "ytoaghhcjlfiflaagreatdoor", sum := "6410bdf66a4caebecfe9ef532d3f43d0808e2497dc763849eda91ee79294fd95", func := "twinrampart/twinrampartlaw3.WorldOne", spec := "worldOne", inPlace := ["slices.overlaps[twinrampart/node.Note]"], unfollowed := true, recurses := true, named := ["twinrampart/api.ErrBound", "twinrampart/api.ErrShape", "twinrampart/api.ErrOff", "twinrampart/api.ErrOld", "twinrampart/api.ErrFull", "twinrampart/api.ErrNone", "twinrampart/api.ErrHeld", "twinrampart/api.ErrExist", "twinrampart/api.ErrState", "twinrampart/api.ErrDeny"], plainKeys := false, apart := false, laid := [("twinrampart/api.ErrBound", laid_twinrampart_api_ErrBound), ("twinrampart/api.ErrShape", laid_twinrampart_api_ErrShape), ("twinrampart/api.ErrNone", laid_twinrampart_api_ErrNone), ("twinrampart/api.ErrExist", laid_twinrampart_api_ErrExist), ("twinrampart/api.ErrFull", laid_twinrampart_api_ErrFull), ("twinrampart/api.ErrOff", laid_twinrampart_api_ErrOff), ("twinrampart/api.ErrDeny", laid_twinrampart_api_ErrDeny), ("twinrampart/api.ErrState", laid_twinrampart_api_ErrState), ("twinrampart/api.ErrOld", laid_twinrampart_api_ErrOld), ("twinrampart/api.ErrHeld", laid_twinrampart_api_ErrHeld)], narrowed := true }
def WorldOneUptoSaid : Prop := worldOneUptoRow.holds Tryz.pinned (OpenSpec.upto worldOneSpec)

/-- 'twinrampartlaw3.WorldApart', WHERE WHAT IT READS IS OF BULK AT MOST 1048576: true; the input reads as it did. -/
def worldApartUptoRow : OpenClaim := { program := "ytoaghhcjlfiflaagreatdoor", sum := "6410bdf66a4caebecfe9ef532d3f43d0808e2497dc763849eda91ee79294fd95", func := "twinrampart/twinrampartlaw3.WorldApart", spec := "worldApart", inPlace := ["slices.overlaps[twinrampart/node.Note]"], unfollowed := true, recurses := true, named := ["twinrampart/api.ErrBound", "twinrampart/api.ErrShape", "twinrampart/api.ErrOff", "twinrampart/api.ErrOld", "twinrampart/api.ErrFull", "twinrampart/api.ErrNone", "twinrampart/api.ErrHeld", "twinrampart/api.ErrExist", "twinrampart/api.ErrState", "twinrampart/api.ErrDeny"], plainKeys := false, apart := false, laid := [("twinrampart/api.ErrBound", laid_twinrampart_api_ErrBound), ("twinrampart/api.ErrShape", laid_twinrampart_api_ErrShape), ("twinrampart/api.ErrNone", laid_twinrampart_api_ErrNone), ("twinrampart/api.ErrExist", laid_twinrampart_api_ErrExist), ("twinrampart/api.ErrFull", laid_twinrampart_api_ErrFull), ("twinrampart/api.ErrOff", laid_twinrampart_api_ErrOff), ("twinrampart/api.ErrDeny", laid_twinrampart_api_ErrDeny), ("twinrampart/api.ErrState", laid_twinrampart_api_ErrState), ("twinrampart/api.ErrOld", laid_twinrampart_api_ErrOld), ("twinrampart/api.ErrHeld", laid_twinrampart_api_ErrHeld)], narrowed := true }
def WorldApartUptoSaid : Prop := worldApartUptoRow.holds Tryz.pinned (OpenSpec.upto worldApartSpec)

/-- 'twinrampartlaw3.WorldMirrors', WHERE WHAT IT READS IS OF BULK AT MOST 1048576: true; the input reads as it did. -/
def worldMirrorsUptoRow : OpenClaim := { program := "ytoaghhcjlfiflaagreatdoor", sum := "6410bdf66a4caebecfe9ef532d3f43d0808e2497dc763849eda91ee79294fd95", func := "twinrampart/twinrampartlaw3.WorldMirrors", spec := "worldMirrors", inPlace := ["slices.overlaps[twinrampart/node.Note]"], unfollowed := true, recurses := true, named := ["twinrampart/api.ErrBound", "twinrampart/api.ErrShape", "twinrampart/api.ErrOff", "twinrampart/api.ErrOld", "twinrampart/api.ErrFull", "twinrampart/api.ErrNone", "twinrampart/api.ErrHeld", "twinrampart/api.ErrExist", "twinrampart/api.ErrState", "twinrampart/api.ErrDeny"], plainKeys := false, apart := false, laid := [("twinrampart/api.ErrBound", laid_twinrampart_api_ErrBound), ("twinrampart/api.ErrShape", laid_twinrampart_api_ErrShape), ("twinrampart/api.ErrNone", laid_twinrampart_api_ErrNone), ("twinrampart/api.ErrExist", laid_twinrampart_api_ErrExist), ("twinrampart/api.ErrFull", laid_twinrampart_api_ErrFull), ("twinrampart/api.ErrOff", laid_twinrampart_api_ErrOff), ("twinrampart/api.ErrDeny", laid_twinrampart_api_ErrDeny), ("twinrampart/api.ErrState", laid_twinrampart_api_ErrState), ("twinrampart/api.ErrOld", laid_twinrampart_api_ErrOld), ("twinrampart/api.ErrHeld", laid_twinrampart_api_ErrHeld)], narrowed := true }
def WorldMirrorsUptoSaid : Prop := worldMirrorsUptoRow.holds Tryz.pinned (OpenSpec.upto worldMirrorsSpec)

/-- 'twinrampartlaw3.WorldSteps', WHERE WHAT IT READS IS OF BULK AT MOST 1048576: true; the input reads as it did. -/
def worldStepsUptoRow : OpenClaim := { program := "ytoaghhcjlfiflaagreatdoor", sum := "6410bdf66a4caebecfe9ef532d3f43d0808e2497dc763849eda91ee79294fd95", func := "twinrampart/twinrampartlaw3.WorldSteps", spec := "worldSteps", inPlace := ["internal/reflectlite.ValueOf", "(internal/reflectlite.Value).Type", "(internal/reflectlite.Value).IsNil", "internal/reflectlite.TypeOf", "(internal/reflectlite.Value).Elem", "(internal/reflectlite.Value).Set", "slices.overlaps[twinrampart/node.Note]"], unfollowed := true, recurses := true, named := ["twinrampart/api.ErrBound", "twinrampart/api.ErrShape", "twinrampart/api.ErrOff", "twinrampart/api.ErrOld", "twinrampart/api.ErrFull", "twinrampart/api.ErrNone", "twinrampart/api.ErrHeld", "twinrampart/api.ErrExist", "twinrampart/api.ErrText", "twinrampart/api.ErrDeny", "twinrampart/api.ErrState", "errors.errorType"], plainKeys := false, apart := false, laid := [("errors.errorType", laid_errors_errorType), ("twinrampart/api.ErrText", laid_twinrampart_api_ErrText), ("twinrampart/api.ErrBound", laid_twinrampart_api_ErrBound), ("twinrampart/api.ErrShape", laid_twinrampart_api_ErrShape), ("twinrampart/api.ErrNone", laid_twinrampart_api_ErrNone), ("twinrampart/api.ErrExist", laid_twinrampart_api_ErrExist), ("twinrampart/api.ErrFull", laid_twinrampart_api_ErrFull), ("twinrampart/api.ErrOff", laid_twinrampart_api_ErrOff), ("twinrampart/api.ErrDeny", laid_twinrampart_api_ErrDeny), ("twinrampart/api.ErrState", laid_twinrampart_api_ErrState), ("twinrampart/api.ErrOld", laid_twinrampart_api_ErrOld), ("twinrampart/api.ErrHeld", laid_twinrampart_api_ErrHeld)], narrowed := true }
def WorldStepsUptoSaid : Prop := worldStepsUptoRow.holds Tryz.pinned (OpenSpec.upto worldStepsSpec)

/-- 'twinrampartlaw3.PlayAgain', WHERE WHAT IT READS IS OF BULK AT MOST 1048576: true; the input reads as it did. -/
def playAgainUptoRow : OpenClaim := { program := "ytoaghhcjlfiflaagreatdoor", sum := "6410bdf66a4caebecfe9ef532d3f43d0808e2497dc763849eda91ee79294fd95", func := "twinrampart/twinrampartlaw3.PlayAgain", spec := "playAgain", inPlace := ["slices.overlaps[twinrampart/node.Note]", "internal/reflectlite.ValueOf", "(internal/reflectlite.Value).Type", "(internal/reflectlite.Value).IsNil", "internal/reflectlite.TypeOf", "(internal/reflectlite.Value).Elem", "(internal/reflectlite.Value).Set"], unfollowed := true, recurses := true, named := ["twinrampart/api.ErrBound", "twinrampart/api.ErrShape", "twinrampart/api.ErrOff", "twinrampart/api.ErrOld", "twinrampart/api.ErrFull", "twinrampart/api.ErrNone", "twinrampart/api.ErrHeld", "twinrampart/api.ErrExist", "twinrampart/api.ErrState", "twinrampart/api.ErrDeny", "twinrampart/api.ErrText", "errors.errorType"], plainKeys := false, apart := false, laid := [("errors.errorType", laid_errors_errorType), ("twinrampart/api.ErrText", laid_twinrampart_api_ErrText), ("twinrampart/api.ErrBound", laid_twinrampart_api_ErrBound), ("twinrampart/api.ErrShape", laid_twinrampart_api_ErrShape), ("twinrampart/api.ErrNone", laid_twinrampart_api_ErrNone), ("twinrampart/api.ErrExist", laid_twinrampart_api_ErrExist), ("twinrampart/api.ErrFull", laid_twinrampart_api_ErrFull), ("twinrampart/api.ErrOff", laid_twinrampart_api_ErrOff), ("twinrampart/api.ErrDeny", laid_twinrampart_api_ErrDeny), ("twinrampart/api.ErrState", laid_twinrampart_api_ErrState), ("twinrampart/api.ErrOld", laid_twinrampart_api_ErrOld), ("twinrampart/api.ErrHeld", laid_twinrampart_api_ErrHeld)], narrowed := true }
def PlayAgainUptoSaid : Prop := playAgainUptoRow.holds Tryz.pinned (OpenSpec.upto playAgainSpec)

/-- 'twinrampartlaw3.PlayRuns', WHERE WHAT IT READS IS OF BULK AT MOST 1048576: true; the input reads as it did. -/
def playRunsUptoRow : OpenClaim := { program := "ytoaghhcjlfiflaagreatdoor", sum := "6410bdf66a4caebecfe9ef532d3f43d0808e2497dc763849eda91ee79294fd95", func := "twinrampart/twinrampartlaw3.PlayRuns", spec := "playRuns", inPlace := ["slices.overlaps[twinrampart/node.Note]", "internal/reflectlite.ValueOf", "(internal/reflectlite.Value).Type", "(internal/reflectlite.Value).IsNil", "internal/reflectlite.TypeOf", "(internal/reflectlite.Value).Elem", "(internal/reflectlite.Value).Set"], unfollowed := true, recurses := true, named := ["twinrampart/api.ErrBound", "twinrampart/api.ErrShape", "twinrampart/api.ErrOff", "twinrampart/api.ErrOld", "twinrampart/api.ErrFull", "twinrampart/api.ErrNone", "twinrampart/api.ErrHeld", "twinrampart/api.ErrExist", "twinrampart/api.ErrState", "twinrampart/api.ErrDeny", "twinrampart/api.ErrText", "errors.errorType"], plainKeys := false, apart := false, laid := [("errors.errorType", laid_errors_errorType), ("twinrampart/api.ErrText", laid_twinrampart_api_ErrText), ("twinrampart/api.ErrBound", laid_twinrampart_api_ErrBound), ("twinrampart/api.ErrShape", laid_twinrampart_api_ErrShape), ("twinrampart/api.ErrNone", laid_twinrampart_api_ErrNone), ("twinrampart/api.ErrExist", laid_twinrampart_api_ErrExist), ("twinrampart/api.ErrFull", laid_twinrampart_api_ErrFull), ("twinrampart/api.ErrOff", laid_twinrampart_api_ErrOff), ("twinrampart/api.ErrDeny", laid_twinrampart_api_ErrDeny), ("twinrampart/api.ErrState", laid_twinrampart_api_ErrState), ("twinrampart/api.ErrOld", laid_twinrampart_api_ErrOld), ("twinrampart/api.ErrHeld", laid_twinrampart_api_ErrHeld)], narrowed := true }
def PlayRunsUptoSaid : Prop := playRunsUptoRow.holds Tryz.pinned (OpenSpec.upto playRunsSpec)

end Rows
end Go.Proofs.YtoaghhcjlfiflaaGreatDoor
