/-
  NARROWER THAN 'FOR EVERY INPUT', by the rows' own cells (each row's printed sentence says how): TrackCloses: laid · TrackSteps: laid · RoleApart: laid · RoleSilence: laid · RoleActs: laid · MirrorTurned: laid · MirrorTells: laid · TableApart: laid · TableFills: laid.
  DERIVED. THE GIVEN ROWS OF THIS SEAT. 9 by the template 'for every input the law returns true; each argument reads behind the call as it read before'; 0 by the template 'total and deterministic' (their statements: YtnpfaghfcbbmdaaDoorTotals.lean).
  GIVEN WITH THE SEED: the statements are not yours to turn. If you find one false, say at which input.
  Laid BY PROGRAM, IN A SANDBOX (cutbox-rows.mjs): the forced cells as the released guide's own fill.sh prints them over the translation 8ddaa93509ae73cc… (all of the seat's roots in one cut). By AI agents, Wed Nov 11 2026. No macro, syntax, notation, axiom, sorry.
-/
import Derived.Test.YtnpfaghfcbbmdaaDoorChecked
import GoSem.Claim
import GoSem.ClaimJoined
import GoSem.ClaimMapViews
import Derived.JoinedTies
import Derived.KernelRfl
namespace Go.Proofs.YtnpfaghfcbbmdaaDoor
/- THE CELL 'sum', in the pinned program and in every row, IS THE sha256 OF THE DUMP (.gsa) THAT YtnpfaghfcbbmdaaDoorProg.lean LOADS. Nothing in Lean hashes anything: it is a label: what it is worth is what the hold of that sum in a sandbox is worth. -/
noncomputable def Tryd.pinned : Pinned := { name := "ytnpfaghfcbbmdaadoor", sum := "8ddaa93509ae73cc152d2544f59a0c172c1485714c4cd3f1691e23343fd08147", checked := Tryd.checked }
namespace Rows
def none {H : Type} : Left H := { results := [], args := [] }

/- WHAT THE LISTED PACKAGE-LEVEL VARIABLES READ AS WHEN THE CALL BEGINS. Each datum BY PROGRAM (the guide's laid-datum.mjs) off the statement by which the dump's own 'gosem.cut.vars' lays the variable. In a bare row this is a premise. The card (YtnpfaghfcbbmdaaDoorCards.lean) ties it to the program's text. -/
def laid_twinrampart_api_ErrBound {H : Type} : DataW H := .iface "*errors.errorString" (.ptr (.agg [.lit (.string [116, 119, 105, 110, 114, 97, 109, 112, 97, 114, 116, 58, 32, 98, 111, 117, 110, 100])]))
def laid_twinrampart_api_ErrState {H : Type} : DataW H := .iface "*errors.errorString" (.ptr (.agg [.lit (.string [116, 119, 105, 110, 114, 97, 109, 112, 97, 114, 116, 58, 32, 115, 116, 97, 116, 101])]))
def laid_errors_errorType {H : Type} : DataW H := .iface "internal/reflectlite.rtype" (.agg [.ptr (.lit (.string [101, 114, 114, 111, 114]))])
def laid_twinrampart_api_ErrText {H : Type} : DataW H := .iface "*errors.errorString" (.ptr (.agg [.lit (.string [116, 119, 105, 110, 114, 97, 109, 112, 97, 114, 116, 58, 32, 116, 101, 120, 116])]))
def laid_twinrampart_api_ErrShape {H : Type} : DataW H := .iface "*errors.errorString" (.ptr (.agg [.lit (.string [116, 119, 105, 110, 114, 97, 109, 112, 97, 114, 116, 58, 32, 115, 104, 97, 112, 101])]))
def laid_twinrampart_api_ErrNone {H : Type} : DataW H := .iface "*errors.errorString" (.ptr (.agg [.lit (.string [116, 119, 105, 110, 114, 97, 109, 112, 97, 114, 116, 58, 32, 110, 111, 110, 101])]))
def laid_twinrampart_api_ErrExist {H : Type} : DataW H := .iface "*errors.errorString" (.ptr (.agg [.lit (.string [116, 119, 105, 110, 114, 97, 109, 112, 97, 114, 116, 58, 32, 101, 120, 105, 115, 116])]))
def laid_twinrampart_api_ErrFull {H : Type} : DataW H := .iface "*errors.errorString" (.ptr (.agg [.lit (.string [116, 119, 105, 110, 114, 97, 109, 112, 97, 114, 116, 58, 32, 102, 117, 108, 108])]))
def laid_twinrampart_api_ErrOff {H : Type} : DataW H := .iface "*errors.errorString" (.ptr (.agg [.lit (.string [116, 119, 105, 110, 114, 97, 109, 112, 97, 114, 116, 58, 32, 111, 102, 102])]))
def laid_twinrampart_api_ErrDeny {H : Type} : DataW H := .iface "*errors.errorString" (.ptr (.agg [.lit (.string [116, 119, 105, 110, 114, 97, 109, 112, 97, 114, 116, 58, 32, 100, 101, 110, 121])]))
def laid_twinrampart_api_ErrOld {H : Type} : DataW H := .iface "*errors.errorString" (.ptr (.agg [.lit (.string [116, 119, 105, 110, 114, 97, 109, 112, 97, 114, 116, 58, 32, 111, 108, 100])]))
def laid_twinrampart_api_ErrHeld {H : Type} : DataW H := .iface "*errors.errorString" (.ptr (.agg [.lit (.string [116, 119, 105, 110, 114, 97, 109, 112, 97, 114, 116, 58, 32, 104, 101, 108, 100])]))

/-- 'twinrampartlaw1.TrackCloses': WHATEVER THE INPUT: true; the input reads as it did. -/
def trackClosesSpec : ChangeSpec := { name := "trackCloses", fn := fun _ => fun
  | [d1, d2] => { results := [.lit (.bool true)], args := [d1, d2] }
  | _ => none }
def trackClosesRow : OpenClaim := { program := "ytnpfaghfcbbmdaadoor", sum := "8ddaa93509ae73cc152d2544f59a0c172c1485714c4cd3f1691e23343fd08147", func := "twinrampart/twinrampartlaw1.TrackCloses", spec := "trackCloses", named := ["twinrampart/api.ErrBound", "twinrampart/api.ErrState"], plainKeys := false, apart := false, laid := [("twinrampart/api.ErrBound", laid_twinrampart_api_ErrBound), ("twinrampart/api.ErrState", laid_twinrampart_api_ErrState)] }
def TrackClosesSaid : Prop := trackClosesRow.holds Tryd.pinned (OpenSpec.ofChange trackClosesSpec)

/-- ITS FALSE NEIGHBOUR: 'it returns false'. Refute it at one input. -/
def trackClosesWrong : ChangeSpec := { name := "trackCloses", fn := fun _ => fun
  | [d1, d2] => { results := [.lit (.bool false)], args := [d1, d2] }
  | _ => none }
def TrackClosesWrongFalsely : Prop := trackClosesRow.holds Tryd.pinned (OpenSpec.ofChange trackClosesWrong)

/-- 'twinrampartlaw1.TrackSteps': WHATEVER THE INPUT: true; the input reads as it did. -/
def trackStepsSpec : ChangeSpec := { name := "trackSteps", fn := fun _ => fun
  | [d1, d2, d3, d4] => { results := [.lit (.bool true)], args := [d1, d2, d3, d4] }
  | _ => none }
def trackStepsRow : OpenClaim := { program := "ytnpfaghfcbbmdaadoor", sum := "8ddaa93509ae73cc152d2544f59a0c172c1485714c4cd3f1691e23343fd08147", func := "twinrampart/twinrampartlaw1.TrackSteps", spec := "trackSteps", inPlace := ["internal/reflectlite.ValueOf", "(internal/reflectlite.Value).Type", "(internal/reflectlite.Value).IsNil", "internal/reflectlite.TypeOf", "(internal/reflectlite.Value).Elem", "(internal/reflectlite.Value).Set"], unfollowed := true, recurses := true, named := ["twinrampart/api.ErrBound", "twinrampart/api.ErrState", "twinrampart/api.ErrText", "twinrampart/api.ErrShape", "twinrampart/api.ErrNone", "twinrampart/api.ErrExist", "twinrampart/api.ErrFull", "twinrampart/api.ErrOff", "twinrampart/api.ErrDeny", "twinrampart/api.ErrOld", "twinrampart/api.ErrHeld", "errors.errorType"], plainKeys := false, apart := false, laid := [("errors.errorType", laid_errors_errorType), ("twinrampart/api.ErrText", laid_twinrampart_api_ErrText), ("twinrampart/api.ErrBound", laid_twinrampart_api_ErrBound), ("twinrampart/api.ErrShape", laid_twinrampart_api_ErrShape), ("twinrampart/api.ErrNone", laid_twinrampart_api_ErrNone), ("twinrampart/api.ErrExist", laid_twinrampart_api_ErrExist), ("twinrampart/api.ErrFull", laid_twinrampart_api_ErrFull), ("twinrampart/api.ErrOff", laid_twinrampart_api_ErrOff), ("twinrampart/api.ErrDeny", laid_twinrampart_api_ErrDeny), ("twinrampart/api.ErrState", laid_twinrampart_api_ErrState), ("twinrampart/api.ErrOld", laid_twinrampart_api_ErrOld), ("twinrampart/api.ErrHeld", laid_twinrampart_api_ErrHeld)] }
def TrackStepsSaid : Prop := trackStepsRow.holds Tryd.pinned (OpenSpec.ofChange trackStepsSpec)

/-- ITS FALSE NEIGHBOUR: 'it returns false'. Refute it at one input. -/
def trackStepsWrong : ChangeSpec := { name := "trackSteps", fn := fun _ => fun
  | [d1, d2, d3, d4] => { results := [.lit (.bool false)], args := [d1, d2, d3, d4] }
  | _ => none }
def TrackStepsWrongFalsely : Prop := trackStepsRow.holds Tryd.pinned (OpenSpec.ofChange trackStepsWrong)

/-- 'twinrampartlaw2.RoleApart': WHATEVER THE INPUT: true; the input reads as it did. -/
def roleApartSpec : ChangeSpec := { name := "roleApart", fn := fun _ => fun
  | [d] => { results := [.lit (.bool true)], args := [d] }
  | _ => none }
def roleApartRow : OpenClaim := { program := "ytnpfaghfcbbmdaadoor", sum := "8ddaa93509ae73cc152d2544f59a0c172c1485714c4cd3f1691e23343fd08147", func := "twinrampart/twinrampartlaw2.RoleApart", spec := "roleApart", named := ["twinrampart/api.ErrBound", "twinrampart/api.ErrHeld", "twinrampart/api.ErrShape"], plainKeys := false, apart := false, laid := [("twinrampart/api.ErrBound", laid_twinrampart_api_ErrBound), ("twinrampart/api.ErrShape", laid_twinrampart_api_ErrShape), ("twinrampart/api.ErrHeld", laid_twinrampart_api_ErrHeld)] }
def RoleApartSaid : Prop := roleApartRow.holds Tryd.pinned (OpenSpec.ofChange roleApartSpec)

/-- ITS FALSE NEIGHBOUR: 'it returns false'. Refute it at one input. -/
def roleApartWrong : ChangeSpec := { name := "roleApart", fn := fun _ => fun
  | [d] => { results := [.lit (.bool false)], args := [d] }
  | _ => none }
def RoleApartWrongFalsely : Prop := roleApartRow.holds Tryd.pinned (OpenSpec.ofChange roleApartWrong)

/-- 'twinrampartlaw2.RoleSilence': WHATEVER THE INPUT: true; the input reads as it did. -/
def roleSilenceSpec : ChangeSpec := { name := "roleSilence", fn := fun _ => fun
  | [d1, d2, d3] => { results := [.lit (.bool true)], args := [d1, d2, d3] }
  | _ => none }
def roleSilenceRow : OpenClaim := { program := "ytnpfaghfcbbmdaadoor", sum := "8ddaa93509ae73cc152d2544f59a0c172c1485714c4cd3f1691e23343fd08147", func := "twinrampart/twinrampartlaw2.RoleSilence", spec := "roleSilence", named := ["twinrampart/api.ErrBound", "twinrampart/api.ErrHeld", "twinrampart/api.ErrShape"], plainKeys := false, apart := false, laid := [("twinrampart/api.ErrBound", laid_twinrampart_api_ErrBound), ("twinrampart/api.ErrShape", laid_twinrampart_api_ErrShape), ("twinrampart/api.ErrHeld", laid_twinrampart_api_ErrHeld)] }
def RoleSilenceSaid : Prop := roleSilenceRow.holds Tryd.pinned (OpenSpec.ofChange roleSilenceSpec)

/-- ITS FALSE NEIGHBOUR: 'it returns false'. Refute it at one input. -/
def roleSilenceWrong : ChangeSpec := { name := "roleSilence", fn := fun _ => fun
  | [d1, d2, d3] => { results := [.lit (.bool false)], args := [d1, d2, d3] }
  | _ => none }
def RoleSilenceWrongFalsely : Prop := roleSilenceRow.holds Tryd.pinned (OpenSpec.ofChange roleSilenceWrong)

/-- 'twinrampartlaw2.RoleActs': WHATEVER THE INPUT: true; the input reads as it did. -/
def roleActsSpec : ChangeSpec := { name := "roleActs", fn := fun _ => fun
  | [d1, d2, d3, d4] => { results := [.lit (.bool true)], args := [d1, d2, d3, d4] }
  | _ => none }
def roleActsRow : OpenClaim := { program := "ytnpfaghfcbbmdaadoor", sum := "8ddaa93509ae73cc152d2544f59a0c172c1485714c4cd3f1691e23343fd08147", func := "twinrampart/twinrampartlaw2.RoleActs", spec := "roleActs", inPlace := ["internal/reflectlite.ValueOf", "(internal/reflectlite.Value).Type", "(internal/reflectlite.Value).IsNil", "internal/reflectlite.TypeOf", "(internal/reflectlite.Value).Elem", "(internal/reflectlite.Value).Set"], unfollowed := true, recurses := true, named := ["twinrampart/api.ErrBound", "twinrampart/api.ErrHeld", "twinrampart/api.ErrShape", "twinrampart/api.ErrText", "twinrampart/api.ErrNone", "twinrampart/api.ErrExist", "twinrampart/api.ErrFull", "twinrampart/api.ErrOff", "twinrampart/api.ErrDeny", "twinrampart/api.ErrState", "twinrampart/api.ErrOld", "errors.errorType"], plainKeys := false, apart := false, laid := [("errors.errorType", laid_errors_errorType), ("twinrampart/api.ErrText", laid_twinrampart_api_ErrText), ("twinrampart/api.ErrBound", laid_twinrampart_api_ErrBound), ("twinrampart/api.ErrShape", laid_twinrampart_api_ErrShape), ("twinrampart/api.ErrNone", laid_twinrampart_api_ErrNone), ("twinrampart/api.ErrExist", laid_twinrampart_api_ErrExist), ("twinrampart/api.ErrFull", laid_twinrampart_api_ErrFull), ("twinrampart/api.ErrOff", laid_twinrampart_api_ErrOff), ("twinrampart/api.ErrDeny", laid_twinrampart_api_ErrDeny), ("twinrampart/api.ErrState", laid_twinrampart_api_ErrState), ("twinrampart/api.ErrOld", laid_twinrampart_api_ErrOld), ("twinrampart/api.ErrHeld", laid_twinrampart_api_ErrHeld)] }
def RoleActsSaid : Prop := roleActsRow.holds Tryd.pinned (OpenSpec.ofChange roleActsSpec)

/-- ITS FALSE NEIGHBOUR: 'it returns false'. Refute it at one input. -/
def roleActsWrong : ChangeSpec := { name := "roleActs", fn := fun _ => fun
  | [d1, d2, d3, d4] => { results := [.lit (.bool false)], args := [d1, d2, d3, d4] }
  | _ => none }
def RoleActsWrongFalsely : Prop := roleActsRow.holds Tryd.pinned (OpenSpec.ofChange roleActsWrong)

/-- 'twinrampartlaw1.MirrorTurned': WHATEVER THE INPUT: true; the input reads as it did. -/
def mirrorTurnedSpec : ChangeSpec := { name := "mirrorTurned", fn := fun _ => fun
  | [d1, d2] => { results := [.lit (.bool true)], args := [d1, d2] }
  | _ => none }
def mirrorTurnedRow : OpenClaim := { program := "ytnpfaghfcbbmdaadoor", sum := "8ddaa93509ae73cc152d2544f59a0c172c1485714c4cd3f1691e23343fd08147", func := "twinrampart/twinrampartlaw1.MirrorTurned", spec := "mirrorTurned", unfollowed := true, recurses := true, named := ["twinrampart/api.ErrBound", "twinrampart/api.ErrOld"], plainKeys := false, apart := false, laid := [("twinrampart/api.ErrBound", laid_twinrampart_api_ErrBound), ("twinrampart/api.ErrOld", laid_twinrampart_api_ErrOld)] }
def MirrorTurnedSaid : Prop := mirrorTurnedRow.holds Tryd.pinned (OpenSpec.ofChange mirrorTurnedSpec)

/-- ITS FALSE NEIGHBOUR: 'it returns false'. Refute it at one input. -/
def mirrorTurnedWrong : ChangeSpec := { name := "mirrorTurned", fn := fun _ => fun
  | [d1, d2] => { results := [.lit (.bool false)], args := [d1, d2] }
  | _ => none }
def MirrorTurnedWrongFalsely : Prop := mirrorTurnedRow.holds Tryd.pinned (OpenSpec.ofChange mirrorTurnedWrong)

/-- 'twinrampartlaw1.MirrorTells': WHATEVER THE INPUT: true; the input reads as it did. -/
def mirrorTellsSpec : ChangeSpec := { name := "mirrorTells", fn := fun _ => fun
  | [d] => { results := [.lit (.bool true)], args := [d] }
  | _ => none }
def mirrorTellsRow : OpenClaim := { program := "ytnpfaghfcbbmdaadoor", sum := "8ddaa93509ae73cc152d2544f59a0c172c1485714c4cd3f1691e23343fd08147", func := "twinrampart/twinrampartlaw1.MirrorTells", spec := "mirrorTells", inPlace := ["internal/reflectlite.ValueOf", "(internal/reflectlite.Value).Type", "(internal/reflectlite.Value).IsNil", "internal/reflectlite.TypeOf", "(internal/reflectlite.Value).Elem", "(internal/reflectlite.Value).Set"], unfollowed := true, recurses := true, named := ["twinrampart/api.ErrBound", "twinrampart/api.ErrOld", "twinrampart/api.ErrText", "twinrampart/api.ErrShape", "twinrampart/api.ErrNone", "twinrampart/api.ErrExist", "twinrampart/api.ErrFull", "twinrampart/api.ErrOff", "twinrampart/api.ErrDeny", "twinrampart/api.ErrState", "twinrampart/api.ErrHeld", "errors.errorType"], plainKeys := false, apart := false, laid := [("errors.errorType", laid_errors_errorType), ("twinrampart/api.ErrText", laid_twinrampart_api_ErrText), ("twinrampart/api.ErrBound", laid_twinrampart_api_ErrBound), ("twinrampart/api.ErrShape", laid_twinrampart_api_ErrShape), ("twinrampart/api.ErrNone", laid_twinrampart_api_ErrNone), ("twinrampart/api.ErrExist", laid_twinrampart_api_ErrExist), ("twinrampart/api.ErrFull", laid_twinrampart_api_ErrFull), ("twinrampart/api.ErrOff", laid_twinrampart_api_ErrOff), ("twinrampart/api.ErrDeny", laid_twinrampart_api_ErrDeny), ("twinrampart/api.ErrState", laid_twinrampart_api_ErrState), ("twinrampart/api.ErrOld", laid_twinrampart_api_ErrOld), ("twinrampart/api.ErrHeld", laid_twinrampart_api_ErrHeld)] }
def MirrorTellsSaid : Prop := mirrorTellsRow.holds Tryd.pinned (OpenSpec.ofChange mirrorTellsSpec)

/-- ITS FALSE NEIGHBOUR: 'it returns false'. Refute it at one input. -/
def mirrorTellsWrong : ChangeSpec := { name := "mirrorTells", fn := fun _ => fun
  | [d] => { results := [.lit (.bool false)], args := [d] }
  | _ => none }
def MirrorTellsWrongFalsely : Prop := mirrorTellsRow.holds Tryd.pinned (OpenSpec.ofChange mirrorTellsWrong)

/-- 'twinrampartlaw1.TableApart': WHATEVER THE INPUT: true; the input reads as it did. -/
def tableApartSpec : ChangeSpec := { name := "tableApart", fn := fun _ => fun
  | [d1, d2] => { results := [.lit (.bool true)], args := [d1, d2] }
  | _ => none }
def tableApartRow : OpenClaim := { program := "ytnpfaghfcbbmdaadoor", sum := "8ddaa93509ae73cc152d2544f59a0c172c1485714c4cd3f1691e23343fd08147", func := "twinrampart/twinrampartlaw1.TableApart", spec := "tableApart", unfollowed := true, recurses := true, named := ["twinrampart/api.ErrBound", "twinrampart/api.ErrExist", "twinrampart/api.ErrFull", "twinrampart/api.ErrNone"], plainKeys := false, apart := false, laid := [("twinrampart/api.ErrBound", laid_twinrampart_api_ErrBound), ("twinrampart/api.ErrNone", laid_twinrampart_api_ErrNone), ("twinrampart/api.ErrExist", laid_twinrampart_api_ErrExist), ("twinrampart/api.ErrFull", laid_twinrampart_api_ErrFull)] }
def TableApartSaid : Prop := tableApartRow.holds Tryd.pinned (OpenSpec.ofChange tableApartSpec)

/-- ITS FALSE NEIGHBOUR: 'it returns false'. Refute it at one input. -/
def tableApartWrong : ChangeSpec := { name := "tableApart", fn := fun _ => fun
  | [d1, d2] => { results := [.lit (.bool false)], args := [d1, d2] }
  | _ => none }
def TableApartWrongFalsely : Prop := tableApartRow.holds Tryd.pinned (OpenSpec.ofChange tableApartWrong)

/-- 'twinrampartlaw1.TableFills': WHATEVER THE INPUT: true; the input reads as it did. -/
def tableFillsSpec : ChangeSpec := { name := "tableFills", fn := fun _ => fun
  | [d1, d2, d3, d4] => { results := [.lit (.bool true)], args := [d1, d2, d3, d4] }
  | _ => none }
def tableFillsRow : OpenClaim := { program := "ytnpfaghfcbbmdaadoor", sum := "8ddaa93509ae73cc152d2544f59a0c172c1485714c4cd3f1691e23343fd08147", func := "twinrampart/twinrampartlaw1.TableFills", spec := "tableFills", inPlace := ["internal/reflectlite.ValueOf", "(internal/reflectlite.Value).Type", "(internal/reflectlite.Value).IsNil", "internal/reflectlite.TypeOf", "(internal/reflectlite.Value).Elem", "(internal/reflectlite.Value).Set"], unfollowed := true, recurses := true, named := ["twinrampart/api.ErrBound", "twinrampart/api.ErrExist", "twinrampart/api.ErrFull", "twinrampart/api.ErrText", "twinrampart/api.ErrShape", "twinrampart/api.ErrNone", "twinrampart/api.ErrOff", "twinrampart/api.ErrDeny", "twinrampart/api.ErrState", "twinrampart/api.ErrOld", "twinrampart/api.ErrHeld", "errors.errorType"], plainKeys := false, apart := false, laid := [("errors.errorType", laid_errors_errorType), ("twinrampart/api.ErrText", laid_twinrampart_api_ErrText), ("twinrampart/api.ErrBound", laid_twinrampart_api_ErrBound), ("twinrampart/api.ErrShape", laid_twinrampart_api_ErrShape), ("twinrampart/api.ErrNone", laid_twinrampart_api_ErrNone), ("twinrampart/api.ErrExist", laid_twinrampart_api_ErrExist), ("twinrampart/api.ErrFull", laid_twinrampart_api_ErrFull), ("twinrampart/api.ErrOff", laid_twinrampart_api_ErrOff), ("twinrampart/api.ErrDeny", laid_twinrampart_api_ErrDeny), ("twinrampart/api.ErrState", laid_twinrampart_api_ErrState), ("twinrampart/api.ErrOld", laid_twinrampart_api_ErrOld), ("twinrampart/api.ErrHeld", laid_twinrampart_api_ErrHeld)] }
def TableFillsSaid : Prop := tableFillsRow.holds Tryd.pinned (OpenSpec.ofChange tableFillsSpec)

/-- ITS FALSE NEIGHBOUR: 'it returns false'. Refute it at one input. -/
def tableFillsWrong : ChangeSpec := { name := "tableFills", fn := fun _ => fun
  | [d1, d2, d3, d4] => { results := [.lit (.bool false)], args := [d1, d2, d3, d4] }
  | _ => none }
def TableFillsWrongFalsely : Prop := tableFillsRow.holds Tryd.pinned (OpenSpec.ofChange tableFillsWrong)

/- THE SECOND FORM. 'bulk': how many values and letters a reading holds, each counted each time it is reached (what is shared counts as often as it is met; a slice's spare places count too). A statement '..UptoSaid' is the law's where the arguments, and the package variables that the reading takes, are together of bulk at most 1048576: NARROWER than '..Said'. Prove '..Said' where nothing that the law and all that it calls make is longer than what came in: it says more and counts as full. Else prove '..UptoSaid'. A law counts once. -/
mutual
def uptoBulk {H : Type} : DataW H → Nat
  | .lit (.string bytes) => bytes.length + 1
  | .lit _ => 1
  | .nil => 1
  | .ptr d => uptoBulk d + 1
  | .slice elems spare => uptoBulkAll elems + uptoBulkAll spare + 1
  | .agg parts => uptoBulkAll parts + 1
  | .iface _ d => uptoBulk d + 1
  | .map entries => uptoBulkEntries entries + 1
  | .held _ => 1
def uptoBulkAll {H : Type} : List (DataW H) → Nat
  | [] => 0
  | d :: r => uptoBulk d + uptoBulkAll r
def uptoBulkEntries {H : Type} : List (Lit × DataW H) → Nat
  | [] => 0
  | x :: r => uptoBulkEntry x + uptoBulkEntries r
def uptoBulkEntry {H : Type} : Lit × DataW H → Nat
  | (.string bytes, d) => bytes.length + uptoBulk d + 1
  | (_, d) => uptoBulk d + 1
 end
def uptoSmall : (H : Type) → List (DataW H) → Bool := fun _ ds => decide (uptoBulkAll ds ≤ 1048576)
def OpenSpec.upto (s : _root_.Go.ChangeSpec) : _root_.Go.OpenSpec := { _root_.Go.OpenSpec.ofChange s with cond := some uptoSmall }

/-- 'twinrampartlaw1.TrackCloses', WHERE WHAT IT READS IS OF BULK AT MOST 1048576: true; the input reads as it did. -/
def trackClosesUptoRow : OpenClaim := { program := "ytnpfaghfcbbmdaadoor", sum := "8ddaa93509ae73cc152d2544f59a0c172c1485714c4cd3f1691e23343fd08147", func := "twinrampart/twinrampartlaw1.TrackCloses", spec := "trackCloses", named := ["twinrampart/api.ErrBound", "twinrampart/api.ErrState"], plainKeys := false, apart := false, laid := [("twinrampart/api.ErrBound", laid_twinrampart_api_ErrBound), ("twinrampart/api.ErrState", laid_twinrampart_api_ErrState)], narrowed := true }
def TrackClosesUptoSaid : Prop := trackClosesUptoRow.holds Tryd.pinned (OpenSpec.upto trackClosesSpec)

/-- 'twinrampartlaw1.TrackSteps', WHERE WHAT IT READS IS OF BULK AT MOST 1048576: true; the input reads as it did. -/
def trackStepsUptoRow : OpenClaim := { program := "ytnpfaghfcbbmdaadoor", sum := "8ddaa93509ae73cc152d2544f59a0c172c1485714c4cd3f1691e23343fd08147", func := "twinrampart/twinrampartlaw1.TrackSteps", spec := "trackSteps", inPlace := ["internal/reflectlite.ValueOf", "(internal/reflectlite.Value).Type", "(internal/reflectlite.Value).IsNil", "internal/reflectlite.TypeOf", "(internal/reflectlite.Value).Elem", "(internal/reflectlite.Value).Set"], unfollowed := true, recurses := true, named := ["twinrampart/api.ErrBound", "twinrampart/api.ErrState", "twinrampart/api.ErrText", "twinrampart/api.ErrShape", "twinrampart/api.ErrNone", "twinrampart/api.ErrExist", "twinrampart/api.ErrFull", "twinrampart/api.ErrOff", "twinrampart/api.ErrDeny", "twinrampart/api.ErrOld", "twinrampart/api.ErrHeld", "errors.errorType"], plainKeys := false, apart := false, laid := [("errors.errorType", laid_errors_errorType), ("twinrampart/api.ErrText", laid_twinrampart_api_ErrText), ("twinrampart/api.ErrBound", laid_twinrampart_api_ErrBound), ("twinrampart/api.ErrShape", laid_twinrampart_api_ErrShape), ("twinrampart/api.ErrNone", laid_twinrampart_api_ErrNone), ("twinrampart/api.ErrExist", laid_twinrampart_api_ErrExist), ("twinrampart/api.ErrFull", laid_twinrampart_api_ErrFull), ("twinrampart/api.ErrOff", laid_twinrampart_api_ErrOff), ("twinrampart/api.ErrDeny", laid_twinrampart_api_ErrDeny), ("twinrampart/api.ErrState", laid_twinrampart_api_ErrState), ("twinrampart/api.ErrOld", laid_twinrampart_api_ErrOld), ("twinrampart/api.ErrHeld", laid_twinrampart_api_ErrHeld)], narrowed := true }
def TrackStepsUptoSaid : Prop := trackStepsUptoRow.holds Tryd.pinned (OpenSpec.upto trackStepsSpec)

/-- 'twinrampartlaw2.RoleApart', WHERE WHAT IT READS IS OF BULK AT MOST 1048576: true; the input reads as it did. -/
def roleApartUptoRow : OpenClaim := { program := "ytnpfaghfcbbmdaadoor", sum := "8ddaa93509ae73cc152d2544f59a0c172c1485714c4cd3f1691e23343fd08147", func := "twinrampart/twinrampartlaw2.RoleApart", spec := "roleApart", named := ["twinrampart/api.ErrBound", "twinrampart/api.ErrHeld", "twinrampart/api.ErrShape"], plainKeys := false, apart := false, laid := [("twinrampart/api.ErrBound", laid_twinrampart_api_ErrBound), ("twinrampart/api.ErrShape", laid_twinrampart_api_ErrShape), ("twinrampart/api.ErrHeld", laid_twinrampart_api_ErrHeld)], narrowed := true }
def RoleApartUptoSaid : Prop := roleApartUptoRow.holds Tryd.pinned (OpenSpec.upto roleApartSpec)

/-- 'twinrampartlaw2.RoleSilence', WHERE WHAT IT READS IS OF BULK AT MOST 1048576: true; the input reads as it did. -/
def roleSilenceUptoRow : OpenClaim := { program := "ytnpfaghfcbbmdaadoor", sum := "8ddaa93509ae73cc152d2544f59a0c172c1485714c4cd3f1691e23343fd08147", func := "twinrampart/twinrampartlaw2.RoleSilence", spec := "roleSilence", named := ["twinrampart/api.ErrBound", "twinrampart/api.ErrHeld", "twinrampart/api.ErrShape"], plainKeys := false, apart := false, laid := [("twinrampart/api.ErrBound", laid_twinrampart_api_ErrBound), ("twinrampart/api.ErrShape", laid_twinrampart_api_ErrShape), ("twinrampart/api.ErrHeld", laid_twinrampart_api_ErrHeld)], narrowed := true }
def RoleSilenceUptoSaid : Prop := roleSilenceUptoRow.holds Tryd.pinned (OpenSpec.upto roleSilenceSpec)

/-- 'twinrampartlaw2.RoleActs', WHERE WHAT IT READS IS OF BULK AT MOST 1048576: true; the input reads as it did. -/
def roleActsUptoRow : OpenClaim := { program := "ytnpfaghfcbbmdaadoor", sum := "8ddaa93509ae73cc152d2544f59a0c172c1485714c4cd3f1691e23343fd08147", func := "twinrampart/twinrampartlaw2.RoleActs", spec := "roleActs", inPlace := ["internal/reflectlite.ValueOf", "(internal/reflectlite.Value).Type", "(internal/reflectlite.Value).IsNil", "internal/reflectlite.TypeOf", "(internal/reflectlite.Value).Elem", "(internal/reflectlite.Value).Set"], unfollowed := true, recurses := true, named := ["twinrampart/api.ErrBound", "twinrampart/api.ErrHeld", "twinrampart/api.ErrShape", "twinrampart/api.ErrText", "twinrampart/api.ErrNone", "twinrampart/api.ErrExist", "twinrampart/api.ErrFull", "twinrampart/api.ErrOff", "twinrampart/api.ErrDeny", "twinrampart/api.ErrState", "twinrampart/api.ErrOld", "errors.errorType"], plainKeys := false, apart := false, laid := [("errors.errorType", laid_errors_errorType), ("twinrampart/api.ErrText", laid_twinrampart_api_ErrText), ("twinrampart/api.ErrBound", laid_twinrampart_api_ErrBound), ("twinrampart/api.ErrShape", laid_twinrampart_api_ErrShape), ("twinrampart/api.ErrNone", laid_twinrampart_api_ErrNone), ("twinrampart/api.ErrExist", laid_twinrampart_api_ErrExist), ("twinrampart/api.ErrFull", laid_twinrampart_api_ErrFull), ("twinrampart/api.ErrOff", laid_twinrampart_api_ErrOff), ("twinrampart/api.ErrDeny", laid_twinrampart_api_ErrDeny), ("twinrampart/api.ErrState", laid_twinrampart_api_ErrState), ("twinrampart/api.ErrOld", laid_twinrampart_api_ErrOld), ("twinrampart/api.ErrHeld", laid_twinrampart_api_ErrHeld)], narrowed := true }
def RoleActsUptoSaid : Prop := roleActsUptoRow.holds Tryd.pinned (OpenSpec.upto roleActsSpec)

/-- 'twinrampartlaw1.MirrorTurned', WHERE WHAT IT READS IS OF BULK AT MOST 1048576: true; the input reads as it did. -/
def mirrorTurnedUptoRow : OpenClaim := { program := "ytnpfaghfcbbmdaadoor", sum := "8ddaa93509ae73cc152d2544f59a0c172c1485714c4cd3f1691e23343fd08147", func := "twinrampart/twinrampartlaw1.MirrorTurned", spec := "mirrorTurned", unfollowed := true, recurses := true, named := ["twinrampart/api.ErrBound", "twinrampart/api.ErrOld"], plainKeys := false, apart := false, laid := [("twinrampart/api.ErrBound", laid_twinrampart_api_ErrBound), ("twinrampart/api.ErrOld", laid_twinrampart_api_ErrOld)], narrowed := true }
def MirrorTurnedUptoSaid : Prop := mirrorTurnedUptoRow.holds Tryd.pinned (OpenSpec.upto mirrorTurnedSpec)

/-- 'twinrampartlaw1.MirrorTells', WHERE WHAT IT READS IS OF BULK AT MOST 1048576: true; the input reads as it did. -/
def mirrorTellsUptoRow : OpenClaim := { program := "ytnpfaghfcbbmdaadoor", sum := "8ddaa93509ae73cc152d2544f59a0c172c1485714c4cd3f1691e23343fd08147", func := "twinrampart/twinrampartlaw1.MirrorTells", spec := "mirrorTells", inPlace := ["internal/reflectlite.ValueOf", "(internal/reflectlite.Value).Type", "(internal/reflectlite.Value).IsNil", "internal/reflectlite.TypeOf", "(internal/reflectlite.Value).Elem", "(internal/reflectlite.Value).Set"], unfollowed := true, recurses := true, named := ["twinrampart/api.ErrBound", "twinrampart/api.ErrOld", "twinrampart/api.ErrText", "twinrampart/api.ErrShape", "twinrampart/api.ErrNone", "twinrampart/api.ErrExist", "twinrampart/api.ErrFull", "twinrampart/api.ErrOff", "twinrampart/api.ErrDeny", "twinrampart/api.ErrState", "twinrampart/api.ErrHeld", "errors.errorType"], plainKeys := false, apart := false, laid := [("errors.errorType", laid_errors_errorType), ("twinrampart/api.ErrText", laid_twinrampart_api_ErrText), ("twinrampart/api.ErrBound", laid_twinrampart_api_ErrBound), ("twinrampart/api.ErrShape", laid_twinrampart_api_ErrShape), ("twinrampart/api.ErrNone", laid_twinrampart_api_ErrNone), ("twinrampart/api.ErrExist", laid_twinrampart_api_ErrExist), ("twinrampart/api.ErrFull", laid_twinrampart_api_ErrFull), ("twinrampart/api.ErrOff", laid_twinrampart_api_ErrOff), ("twinrampart/api.ErrDeny", laid_twinrampart_api_ErrDeny), ("twinrampart/api.ErrState", laid_twinrampart_api_ErrState), ("twinrampart/api.ErrOld", laid_twinrampart_api_ErrOld), ("twinrampart/api.ErrHeld", laid_twinrampart_api_ErrHeld)], narrowed := true }
def MirrorTellsUptoSaid : Prop := mirrorTellsUptoRow.holds Tryd.pinned (OpenSpec.upto mirrorTellsSpec)

/-- 'twinrampartlaw1.TableApart', WHERE WHAT IT READS IS OF BULK AT MOST 1048576: true; the input reads as it did. -/
def tableApartUptoRow : OpenClaim := { program := "ytnpfaghfcbbmdaadoor", sum := "8ddaa93509ae73cc152d2544f59a0c172c1485714c4cd3f1691e23343fd08147", func := "twinrampart/twinrampartlaw1.TableApart", spec := "tableApart", unfollowed := true, recurses := true, named := ["twinrampart/api.ErrBound", "twinrampart/api.ErrExist", "twinrampart/api.ErrFull", "twinrampart/api.ErrNone"], plainKeys := false, apart := false, laid := [("twinrampart/api.ErrBound", laid_twinrampart_api_ErrBound), ("twinrampart/api.ErrNone", laid_twinrampart_api_ErrNone), ("twinrampart/api.ErrExist", laid_twinrampart_api_ErrExist), ("twinrampart/api.ErrFull", laid_twinrampart_api_ErrFull)], narrowed := true }
def TableApartUptoSaid : Prop := tableApartUptoRow.holds Tryd.pinned (OpenSpec.upto tableApartSpec)

/-- 'twinrampartlaw1.TableFills', WHERE WHAT IT READS IS OF BULK AT MOST 1048576: true; the input reads as it did. -/
def tableFillsUptoRow : OpenClaim := { program := "ytnpfaghfcbbmdaadoor", sum := "8ddaa93509ae73cc152d2544f59a0c172c1485714c4cd3f1691e23343fd08147", func := "twinrampart/twinrampartlaw1.TableFills", spec := "tableFills", inPlace := ["internal/reflectlite.ValueOf", "(internal/reflectlite.Value).Type", "(internal/reflectlite.Value).IsNil", "internal/reflectlite.TypeOf", "(internal/reflectlite.Value).Elem", "(internal/reflectlite.Value).Set"], unfollowed := true, recurses := true, named := ["twinrampart/api.ErrBound", "twinrampart/api.ErrExist", "twinrampart/api.ErrFull", "twinrampart/api.ErrText", "twinrampart/api.ErrShape", "twinrampart/api.ErrNone", "twinrampart/api.ErrOff", "twinrampart/api.ErrDeny", "twinrampart/api.ErrState", "twinrampart/api.ErrOld", "twinrampart/api.ErrHeld", "errors.errorType"], plainKeys := false, apart := false, laid := [("errors.errorType", laid_errors_errorType), ("twinrampart/api.ErrText", laid_twinrampart_api_ErrText), ("twinrampart/api.ErrBound", laid_twinrampart_api_ErrBound), ("twinrampart/api.ErrShape", laid_twinrampart_api_ErrShape), ("twinrampart/api.ErrNone", laid_twinrampart_api_ErrNone), ("twinrampart/api.ErrExist", laid_twinrampart_api_ErrExist), ("twinrampart/api.ErrFull", laid_twinrampart_api_ErrFull), ("twinrampart/api.ErrOff", laid_twinrampart_api_ErrOff), ("twinrampart/api.ErrDeny", laid_twinrampart_api_ErrDeny), ("twinrampart/api.ErrState", laid_twinrampart_api_ErrState), ("twinrampart/api.ErrOld", laid_twinrampart_api_ErrOld), ("twinrampart/api.ErrHeld", laid_twinrampart_api_ErrHeld)], narrowed := true }
def TableFillsUptoSaid : Prop := tableFillsUptoRow.holds Tryd.pinned (OpenSpec.upto tableFillsSpec)

end Rows
end Go.Proofs.YtnpfaghfcbbmdaaDoor
