/-
  NARROWER THAN 'FOR EVERY INPUT', by the rows' own cells (each row's printed sentence says how): TellerNext: laid · TellerSoon: laid · TellerAll: laid · TableActs: laid · CellCuts: laid · CellActs: laid.
  DERIVED. THE GIVEN ROWS OF THIS SEAT. 6 by the template 'for every input the law returns true; each argument reads behind the call as it read before'; 0 by the template 'total and deterministic' (their statements: YteakdmngllfodaaDoorTotals.lean).
  GIVEN WITH THE SEED: the statements are not yours to turn. If you find one false, say at which input.
  Laid BY PROGRAM, IN A SANDBOX (cutbox-rows.mjs): the forced cells as the released guide's own fill.sh prints them over the translation 71451303eca29f4b… (all of the seat's roots in one cut). By AI agents, Wed Nov 11 2026. No macro, syntax, notation, axiom, sorry.
-/
import Derived.Test.YteakdmngllfodaaDoorChecked
import GoSem.Claim
import GoSem.ClaimJoined
import GoSem.ClaimMapViews
import Derived.JoinedTies
import Derived.KernelRfl
namespace Go.Proofs.YteakdmngllfodaaDoor
/- THE CELL 'sum', in the pinned program and in every row, IS THE sha256 OF THE DUMP (.gsa) THAT YteakdmngllfodaaDoorProg.lean LOADS. Nothing in Lean hashes anything: it is a label: what it is worth is what the hold of that sum in a sandbox is worth. -/
noncomputable def Tryd.pinned : Pinned := { name := "yteakdmngllfodaadoor", sum := "71451303eca29f4be975c6cbdb6963e35b3ef26044908826ccfb3be09f3a0248", checked := Tryd.checked }
namespace Rows
def none {H : Type} : Left H := { results := [], args := [] }

/- WHAT THE LISTED PACKAGE-LEVEL VARIABLES READ AS WHEN THE CALL BEGINS. Each datum BY PROGRAM (the guide's laid-datum.mjs) off the statement by which the dump's own 'gosem.cut.vars' lays the variable. In a bare row this is a premise. The card (YteakdmngllfodaaDoorCards.lean) ties it to the program's text. -/
def laid_twinrampart_api_ErrBound {H : Type} : DataW H := .iface "*errors.errorString" (.ptr (.agg [.lit (.string [116, 119, 105, 110, 114, 97, 109, 112, 97, 114, 116, 58, 32, 98, 111, 117, 110, 100])]))
def laid_twinrampart_api_ErrNone {H : Type} : DataW H := .iface "*errors.errorString" (.ptr (.agg [.lit (.string [116, 119, 105, 110, 114, 97, 109, 112, 97, 114, 116, 58, 32, 110, 111, 110, 101])]))
def laid_twinrampart_api_ErrExist {H : Type} : DataW H := .iface "*errors.errorString" (.ptr (.agg [.lit (.string [116, 119, 105, 110, 114, 97, 109, 112, 97, 114, 116, 58, 32, 101, 120, 105, 115, 116])]))
def laid_twinrampart_api_ErrFull {H : Type} : DataW H := .iface "*errors.errorString" (.ptr (.agg [.lit (.string [116, 119, 105, 110, 114, 97, 109, 112, 97, 114, 116, 58, 32, 102, 117, 108, 108])]))
def laid_twinrampart_api_ErrOld {H : Type} : DataW H := .iface "*errors.errorString" (.ptr (.agg [.lit (.string [116, 119, 105, 110, 114, 97, 109, 112, 97, 114, 116, 58, 32, 111, 108, 100])]))
def laid_errors_errorType {H : Type} : DataW H := .iface "internal/reflectlite.rtype" (.agg [.ptr (.lit (.string [101, 114, 114, 111, 114]))])
def laid_twinrampart_api_ErrText {H : Type} : DataW H := .iface "*errors.errorString" (.ptr (.agg [.lit (.string [116, 119, 105, 110, 114, 97, 109, 112, 97, 114, 116, 58, 32, 116, 101, 120, 116])]))
def laid_twinrampart_api_ErrShape {H : Type} : DataW H := .iface "*errors.errorString" (.ptr (.agg [.lit (.string [116, 119, 105, 110, 114, 97, 109, 112, 97, 114, 116, 58, 32, 115, 104, 97, 112, 101])]))
def laid_twinrampart_api_ErrOff {H : Type} : DataW H := .iface "*errors.errorString" (.ptr (.agg [.lit (.string [116, 119, 105, 110, 114, 97, 109, 112, 97, 114, 116, 58, 32, 111, 102, 102])]))
def laid_twinrampart_api_ErrDeny {H : Type} : DataW H := .iface "*errors.errorString" (.ptr (.agg [.lit (.string [116, 119, 105, 110, 114, 97, 109, 112, 97, 114, 116, 58, 32, 100, 101, 110, 121])]))
def laid_twinrampart_api_ErrState {H : Type} : DataW H := .iface "*errors.errorString" (.ptr (.agg [.lit (.string [116, 119, 105, 110, 114, 97, 109, 112, 97, 114, 116, 58, 32, 115, 116, 97, 116, 101])]))
def laid_twinrampart_api_ErrHeld {H : Type} : DataW H := .iface "*errors.errorString" (.ptr (.agg [.lit (.string [116, 119, 105, 110, 114, 97, 109, 112, 97, 114, 116, 58, 32, 104, 101, 108, 100])]))

/-- 'twinrampartlaw1.TellerNext': WHATEVER THE INPUT: true; the input reads as it did. -/
def tellerNextSpec : ChangeSpec := { name := "tellerNext", fn := fun _ => fun
  | [d1, d2] => { results := [.lit (.bool true)], args := [d1, d2] }
  | _ => none }
def tellerNextRow : OpenClaim := { program := "yteakdmngllfodaadoor", sum := "71451303eca29f4be975c6cbdb6963e35b3ef26044908826ccfb3be09f3a0248", func := "twinrampart/twinrampartlaw1.TellerNext", spec := "tellerNext", unfollowed := true, recurses := true, named := ["twinrampart/api.ErrBound", "twinrampart/api.ErrExist", "twinrampart/api.ErrFull", "twinrampart/api.ErrNone"], apart := false, laid := [("twinrampart/api.ErrBound", laid_twinrampart_api_ErrBound), ("twinrampart/api.ErrNone", laid_twinrampart_api_ErrNone), ("twinrampart/api.ErrExist", laid_twinrampart_api_ErrExist), ("twinrampart/api.ErrFull", laid_twinrampart_api_ErrFull)] }
def TellerNextSaid : Prop := tellerNextRow.holds Tryd.pinned (OpenSpec.ofChange tellerNextSpec)

/-- ITS FALSE NEIGHBOUR: 'it returns false'. Refute it at one input. -/
def tellerNextWrong : ChangeSpec := { name := "tellerNext", fn := fun _ => fun
  | [d1, d2] => { results := [.lit (.bool false)], args := [d1, d2] }
  | _ => none }
def TellerNextWrongFalsely : Prop := tellerNextRow.holds Tryd.pinned (OpenSpec.ofChange tellerNextWrong)

/-- 'twinrampartlaw1.TellerSoon': WHATEVER THE INPUT: true; the input reads as it did. -/
def tellerSoonSpec : ChangeSpec := { name := "tellerSoon", fn := fun _ => fun
  | [d1, d2] => { results := [.lit (.bool true)], args := [d1, d2] }
  | _ => none }
def tellerSoonRow : OpenClaim := { program := "yteakdmngllfodaadoor", sum := "71451303eca29f4be975c6cbdb6963e35b3ef26044908826ccfb3be09f3a0248", func := "twinrampart/twinrampartlaw1.TellerSoon", spec := "tellerSoon", unfollowed := true, recurses := true, named := ["twinrampart/api.ErrBound", "twinrampart/api.ErrExist", "twinrampart/api.ErrFull", "twinrampart/api.ErrNone"], apart := false, laid := [("twinrampart/api.ErrBound", laid_twinrampart_api_ErrBound), ("twinrampart/api.ErrNone", laid_twinrampart_api_ErrNone), ("twinrampart/api.ErrExist", laid_twinrampart_api_ErrExist), ("twinrampart/api.ErrFull", laid_twinrampart_api_ErrFull)] }
def TellerSoonSaid : Prop := tellerSoonRow.holds Tryd.pinned (OpenSpec.ofChange tellerSoonSpec)

/-- ITS FALSE NEIGHBOUR: 'it returns false'. Refute it at one input. -/
def tellerSoonWrong : ChangeSpec := { name := "tellerSoon", fn := fun _ => fun
  | [d1, d2] => { results := [.lit (.bool false)], args := [d1, d2] }
  | _ => none }
def TellerSoonWrongFalsely : Prop := tellerSoonRow.holds Tryd.pinned (OpenSpec.ofChange tellerSoonWrong)

/-- 'twinrampartlaw1.TellerAll': WHATEVER THE INPUT: true; the input reads as it did. -/
def tellerAllSpec : ChangeSpec := { name := "tellerAll", fn := fun _ => fun
  | [d1, d2] => { results := [.lit (.bool true)], args := [d1, d2] }
  | _ => none }
def tellerAllRow : OpenClaim := { program := "yteakdmngllfodaadoor", sum := "71451303eca29f4be975c6cbdb6963e35b3ef26044908826ccfb3be09f3a0248", func := "twinrampart/twinrampartlaw1.TellerAll", spec := "tellerAll", unfollowed := true, recurses := true, named := ["twinrampart/api.ErrBound", "twinrampart/api.ErrExist", "twinrampart/api.ErrFull", "twinrampart/api.ErrNone", "twinrampart/api.ErrOld"], apart := false, laid := [("twinrampart/api.ErrBound", laid_twinrampart_api_ErrBound), ("twinrampart/api.ErrNone", laid_twinrampart_api_ErrNone), ("twinrampart/api.ErrExist", laid_twinrampart_api_ErrExist), ("twinrampart/api.ErrFull", laid_twinrampart_api_ErrFull), ("twinrampart/api.ErrOld", laid_twinrampart_api_ErrOld)] }
def TellerAllSaid : Prop := tellerAllRow.holds Tryd.pinned (OpenSpec.ofChange tellerAllSpec)

/-- ITS FALSE NEIGHBOUR: 'it returns false'. Refute it at one input. -/
def tellerAllWrong : ChangeSpec := { name := "tellerAll", fn := fun _ => fun
  | [d1, d2] => { results := [.lit (.bool false)], args := [d1, d2] }
  | _ => none }
def TellerAllWrongFalsely : Prop := tellerAllRow.holds Tryd.pinned (OpenSpec.ofChange tellerAllWrong)

/-- 'twinrampartlaw1.TableActs': WHATEVER THE INPUT: true; the input reads as it did. -/
def tableActsSpec : ChangeSpec := { name := "tableActs", fn := fun _ => fun
  | [d1, d2] => { results := [.lit (.bool true)], args := [d1, d2] }
  | _ => none }
def tableActsRow : OpenClaim := { program := "yteakdmngllfodaadoor", sum := "71451303eca29f4be975c6cbdb6963e35b3ef26044908826ccfb3be09f3a0248", func := "twinrampart/twinrampartlaw1.TableActs", spec := "tableActs", inPlace := ["internal/reflectlite.ValueOf", "(internal/reflectlite.Value).Type", "(internal/reflectlite.Value).IsNil", "internal/reflectlite.TypeOf", "(internal/reflectlite.Value).Elem", "(internal/reflectlite.Value).Set"], unfollowed := true, recurses := true, named := ["twinrampart/api.ErrBound", "twinrampart/api.ErrExist", "twinrampart/api.ErrFull", "twinrampart/api.ErrText", "twinrampart/api.ErrShape", "twinrampart/api.ErrNone", "twinrampart/api.ErrOff", "twinrampart/api.ErrDeny", "twinrampart/api.ErrState", "twinrampart/api.ErrOld", "twinrampart/api.ErrHeld", "errors.errorType"], apart := false, laid := [("errors.errorType", laid_errors_errorType), ("twinrampart/api.ErrText", laid_twinrampart_api_ErrText), ("twinrampart/api.ErrBound", laid_twinrampart_api_ErrBound), ("twinrampart/api.ErrShape", laid_twinrampart_api_ErrShape), ("twinrampart/api.ErrNone", laid_twinrampart_api_ErrNone), ("twinrampart/api.ErrExist", laid_twinrampart_api_ErrExist), ("twinrampart/api.ErrFull", laid_twinrampart_api_ErrFull), ("twinrampart/api.ErrOff", laid_twinrampart_api_ErrOff), ("twinrampart/api.ErrDeny", laid_twinrampart_api_ErrDeny), ("twinrampart/api.ErrState", laid_twinrampart_api_ErrState), ("twinrampart/api.ErrOld", laid_twinrampart_api_ErrOld), ("twinrampart/api.ErrHeld", laid_twinrampart_api_ErrHeld)] }
def TableActsSaid : Prop := tableActsRow.holds Tryd.pinned (OpenSpec.ofChange tableActsSpec)

/-- ITS FALSE NEIGHBOUR: 'it returns false'. Refute it at one input. -/
def tableActsWrong : ChangeSpec := { name := "tableActs", fn := fun _ => fun
  | [d1, d2] => { results := [.lit (.bool false)], args := [d1, d2] }
  | _ => none }
def TableActsWrongFalsely : Prop := tableActsRow.holds Tryd.pinned (OpenSpec.ofChange tableActsWrong)

/-- 'twinrampartlaw2.CellCuts': WHATEVER THE INPUT: true; the input reads as it did. -/
def cellCutsSpec : ChangeSpec := { name := "cellCuts", fn := fun _ => fun
  | [d] => { results := [.lit (.bool true)], args := [d] }
  | _ => none }
def cellCutsRow : OpenClaim := { program := "yteakdmngllfodaadoor", sum := "71451303eca29f4be975c6cbdb6963e35b3ef26044908826ccfb3be09f3a0248", func := "twinrampart/twinrampartlaw2.CellCuts", spec := "cellCuts", inPlace := ["internal/reflectlite.ValueOf", "(internal/reflectlite.Value).Type", "(internal/reflectlite.Value).IsNil", "internal/reflectlite.TypeOf", "(internal/reflectlite.Value).Elem", "(internal/reflectlite.Value).Set"], unfollowed := true, recurses := true, named := ["twinrampart/api.ErrShape", "twinrampart/api.ErrOff", "twinrampart/api.ErrBound", "twinrampart/api.ErrOld", "twinrampart/api.ErrFull", "twinrampart/api.ErrText", "twinrampart/api.ErrNone", "twinrampart/api.ErrExist", "twinrampart/api.ErrDeny", "twinrampart/api.ErrState", "twinrampart/api.ErrHeld", "errors.errorType"], apart := false, laid := [("errors.errorType", laid_errors_errorType), ("twinrampart/api.ErrText", laid_twinrampart_api_ErrText), ("twinrampart/api.ErrBound", laid_twinrampart_api_ErrBound), ("twinrampart/api.ErrShape", laid_twinrampart_api_ErrShape), ("twinrampart/api.ErrNone", laid_twinrampart_api_ErrNone), ("twinrampart/api.ErrExist", laid_twinrampart_api_ErrExist), ("twinrampart/api.ErrFull", laid_twinrampart_api_ErrFull), ("twinrampart/api.ErrOff", laid_twinrampart_api_ErrOff), ("twinrampart/api.ErrDeny", laid_twinrampart_api_ErrDeny), ("twinrampart/api.ErrState", laid_twinrampart_api_ErrState), ("twinrampart/api.ErrOld", laid_twinrampart_api_ErrOld), ("twinrampart/api.ErrHeld", laid_twinrampart_api_ErrHeld)] }
def CellCutsSaid : Prop := cellCutsRow.holds Tryd.pinned (OpenSpec.ofChange cellCutsSpec)

/-- ITS FALSE NEIGHBOUR: 'it returns false'. Refute it at one input. -/
def cellCutsWrong : ChangeSpec := { name := "cellCuts", fn := fun _ => fun
  | [d] => { results := [.lit (.bool false)], args := [d] }
  | _ => none }
def CellCutsWrongFalsely : Prop := cellCutsRow.holds Tryd.pinned (OpenSpec.ofChange cellCutsWrong)

/-- 'twinrampartlaw2.CellActs': WHATEVER THE INPUT: true; the input reads as it did. -/
def cellActsSpec : ChangeSpec := { name := "cellActs", fn := fun _ => fun
  | [d1, d2] => { results := [.lit (.bool true)], args := [d1, d2] }
  | _ => none }
def cellActsRow : OpenClaim := { program := "yteakdmngllfodaadoor", sum := "71451303eca29f4be975c6cbdb6963e35b3ef26044908826ccfb3be09f3a0248", func := "twinrampart/twinrampartlaw2.CellActs", spec := "cellActs", inPlace := ["internal/reflectlite.ValueOf", "(internal/reflectlite.Value).Type", "(internal/reflectlite.Value).IsNil", "internal/reflectlite.TypeOf", "(internal/reflectlite.Value).Elem", "(internal/reflectlite.Value).Set"], unfollowed := true, recurses := true, named := ["twinrampart/api.ErrShape", "twinrampart/api.ErrOff", "twinrampart/api.ErrBound", "twinrampart/api.ErrOld", "twinrampart/api.ErrFull", "twinrampart/api.ErrText", "twinrampart/api.ErrNone", "twinrampart/api.ErrExist", "twinrampart/api.ErrDeny", "twinrampart/api.ErrState", "twinrampart/api.ErrHeld", "errors.errorType"], apart := false, laid := [("errors.errorType", laid_errors_errorType), ("twinrampart/api.ErrText", laid_twinrampart_api_ErrText), ("twinrampart/api.ErrBound", laid_twinrampart_api_ErrBound), ("twinrampart/api.ErrShape", laid_twinrampart_api_ErrShape), ("twinrampart/api.ErrNone", laid_twinrampart_api_ErrNone), ("twinrampart/api.ErrExist", laid_twinrampart_api_ErrExist), ("twinrampart/api.ErrFull", laid_twinrampart_api_ErrFull), ("twinrampart/api.ErrOff", laid_twinrampart_api_ErrOff), ("twinrampart/api.ErrDeny", laid_twinrampart_api_ErrDeny), ("twinrampart/api.ErrState", laid_twinrampart_api_ErrState), ("twinrampart/api.ErrOld", laid_twinrampart_api_ErrOld), ("twinrampart/api.ErrHeld", laid_twinrampart_api_ErrHeld)] }
def CellActsSaid : Prop := cellActsRow.holds Tryd.pinned (OpenSpec.ofChange cellActsSpec)

/-- ITS FALSE NEIGHBOUR: 'it returns false'. Refute it at one input. -/
def cellActsWrong : ChangeSpec := { name := "cellActs", fn := fun _ => fun
  | [d1, d2] => { results := [.lit (.bool false)], args := [d1, d2] }
  | _ => none }
def CellActsWrongFalsely : Prop := cellActsRow.holds Tryd.pinned (OpenSpec.ofChange cellActsWrong)

/- THE SECOND FORM. 'bulk': how many values and letters a reading holds, each counted each time it is reached (what is shared counts as often as it is met; a slice's spare places count too). A statement '..UptoSaid' is the law's where the arguments, and the package variables that the reading takes, are together of bulk at most 1048576: NARROWER than '..Said'. Prove '..Said' where nothing that the law and all that it calls make is longer than what came in: it says more and counts as full. Else prove '..UptoSaid'. A law counts once. -/
mutual
def uptoBulk {H : Type} : DataW H → Nat
  | .lit (.string bytes) => bytes.length + 1
  | .lit _ => 1
  | .nil => 1
  | .ptr d => uptoBulk d + 1
  | .slice elems spare => uptoBulkAll elems + uptoBulkAll spare + 1
  | .agg parts => uptoBulkAll parts + 1
  | .iface _ d => uptoBulk d + 1
  | .map entries => uptoBulkEntries entries + 1
  | .held _ => 1
def uptoBulkAll {H : Type} : List (DataW H) → Nat
  | [] => 0
  | d :: r => uptoBulk d + uptoBulkAll r
def uptoBulkEntries {H : Type} : List (Lit × DataW H) → Nat
  | [] => 0
  | x :: r => uptoBulkEntry x + uptoBulkEntries r
def uptoBulkEntry {H : Type} : Lit × DataW H → Nat
  | (.string bytes, d) => bytes.length + uptoBulk d + 1
  | (_, d) => uptoBulk d + 1
 end
def uptoSmall : (H : Type) → List (DataW H) → Bool := fun _ ds => decide (uptoBulkAll ds ≤ 1048576)
def OpenSpec.upto (s : _root_.Go.ChangeSpec) : _root_.Go.OpenSpec := { _root_.Go.OpenSpec.ofChange s with cond := some uptoSmall }

/-- 'twinrampartlaw1.TellerNext', WHERE WHAT IT READS IS OF BULK AT MOST 1048576: true; the input reads as it did. -/
def tellerNextUptoRow : OpenClaim := { program := "yteakdmngllfodaadoor", sum := "71451303eca29f4be975c6cbdb6963e35b3ef26044908826ccfb3be09f3a0248", func := "twinrampart/twinrampartlaw1.TellerNext", spec := "tellerNext", unfollowed := true, recurses := true, named := ["twinrampart/api.ErrBound", "twinrampart/api.ErrExist", "twinrampart/api.ErrFull", "twinrampart/api.ErrNone"], apart := false, laid := [("twinrampart/api.ErrBound", laid_twinrampart_api_ErrBound), ("twinrampart/api.ErrNone", laid_twinrampart_api_ErrNone), ("twinrampart/api.ErrExist", laid_twinrampart_api_ErrExist), ("twinrampart/api.ErrFull", laid_twinrampart_api_ErrFull)], narrowed := true }
def TellerNextUptoSaid : Prop := tellerNextUptoRow.holds Tryd.pinned (OpenSpec.upto tellerNextSpec)

/-- 'twinrampartlaw1.TellerSoon', WHERE WHAT IT READS IS OF BULK AT MOST 1048576: true; the input reads as it did. -/
def tellerSoonUptoRow : OpenClaim := { program := "yteakdmngllfodaadoor", sum := "71451303eca29f4be975c6cbdb6963e35b3ef26044908826ccfb3be09f3a0248", func := "twinrampart/twinrampartlaw1.TellerSoon", spec := "tellerSoon", unfollowed := true, recurses := true, named := ["twinrampart/api.ErrBound", "twinrampart/api.ErrExist", "twinrampart/api.ErrFull", "twinrampart/api.ErrNone"], apart := false, laid := [("twinrampart/api.ErrBound", laid_twinrampart_api_ErrBound), ("twinrampart/api.ErrNone", laid_twinrampart_api_ErrNone), ("twinrampart/api.ErrExist", laid_twinrampart_api_ErrExist), ("twinrampart/api.ErrFull", laid_twinrampart_api_ErrFull)], narrowed := true }
def TellerSoonUptoSaid : Prop := tellerSoonUptoRow.holds Tryd.pinned (OpenSpec.upto tellerSoonSpec)

/-- 'twinrampartlaw1.TellerAll', WHERE WHAT IT READS IS OF BULK AT MOST 1048576: true; the input reads as it did. -/
def tellerAllUptoRow : OpenClaim := { program := "yteakdmngllfodaadoor", sum := "71451303eca29f4be975c6cbdb6963e35b3ef26044908826ccfb3be09f3a0248", func := "twinrampart/twinrampartlaw1.TellerAll", spec := "tellerAll", unfollowed := true, recurses := true, named := ["twinrampart/api.ErrBound", "twinrampart/api.ErrExist", "twinrampart/api.ErrFull", "twinrampart/api.ErrNone", "twinrampart/api.ErrOld"], apart := false, laid := [("twinrampart/api.ErrBound", laid_twinrampart_api_ErrBound), ("twinrampart/api.ErrNone", laid_twinrampart_api_ErrNone), ("twinrampart/api.ErrExist", laid_twinrampart_api_ErrExist), ("twinrampart/api.ErrFull", laid_twinrampart_api_ErrFull), ("twinrampart/api.ErrOld", laid_twinrampart_api_ErrOld)], narrowed := true }
def TellerAllUptoSaid : Prop := tellerAllUptoRow.holds Tryd.pinned (OpenSpec.upto tellerAllSpec)

/-- 'twinrampartlaw1.TableActs', WHERE WHAT IT READS IS OF BULK AT MOST 1048576: true; the input reads as it did. -/
def tableActsUptoRow : OpenClaim := { program := "yteakdmngllfodaadoor", sum := "71451303eca29f4be975c6cbdb6963e35b3ef26044908826ccfb3be09f3a0248", func := "twinrampart/twinrampartlaw1.TableActs", spec := "tableActs", inPlace := ["internal/reflectlite.ValueOf", "(internal/reflectlite.Value).Type", "(internal/reflectlite.Value).IsNil", "internal/reflectlite.TypeOf", "(internal/reflectlite.Value).Elem", "(internal/reflectlite.Value).Set"], unfollowed := true, recurses := true, named := ["twinrampart/api.ErrBound", "twinrampart/api.ErrExist", "twinrampart/api.ErrFull", "twinrampart/api.ErrText", "twinrampart/api.ErrShape", "twinrampart/api.ErrNone", "twinrampart/api.ErrOff", "twinrampart/api.ErrDeny", "twinrampart/api.ErrState", "twinrampart/api.ErrOld", "twinrampart/api.ErrHeld", "errors.errorType"], apart := false, laid := [("errors.errorType", laid_errors_errorType), ("twinrampart/api.ErrText", laid_twinrampart_api_ErrText), ("twinrampart/api.ErrBound", laid_twinrampart_api_ErrBound), ("twinrampart/api.ErrShape", laid_twinrampart_api_ErrShape), ("twinrampart/api.ErrNone", laid_twinrampart_api_ErrNone), ("twinrampart/api.ErrExist", laid_twinrampart_api_ErrExist), ("twinrampart/api.ErrFull", laid_twinrampart_api_ErrFull), ("twinrampart/api.ErrOff", laid_twinrampart_api_ErrOff), ("twinrampart/api.ErrDeny", laid_twinrampart_api_ErrDeny), ("twinrampart/api.ErrState", laid_twinrampart_api_ErrState), ("twinrampart/api.ErrOld", laid_twinrampart_api_ErrOld), ("twinrampart/api.ErrHeld", laid_twinrampart_api_ErrHeld)], narrowed := true }
def TableActsUptoSaid : Prop := tableActsUptoRow.holds Tryd.pinned (OpenSpec.upto tableActsSpec)

/-- 'twinrampartlaw2.CellCuts', WHERE WHAT IT READS IS OF BULK AT MOST 1048576: true; the input reads as it did. -/
def cellCutsUptoRow : OpenClaim := { program := "yteakdmngllfodaadoor", sum := "71451303eca29f4be975c6cbdb6963e35b3ef26044908826ccfb3be09f3a0248", func := "twinrampart/twinrampartlaw2.CellCuts", spec := "cellCuts", inPlace := ["internal/reflectlite.ValueOf", "(internal/reflectlite.Value).Type", "(internal/reflectlite.Value).IsNil", "internal/reflectlite.TypeOf", "(internal/reflectlite.Value).Elem", "(internal/reflectlite.Value).Set"], unfollowed := true, recurses := true, named := ["twinrampart/api.ErrShape", "twinrampart/api.ErrOff", "twinrampart/api.ErrBound", "twinrampart/api.ErrOld", "twinrampart/api.ErrFull", "twinrampart/api.ErrText", "twinrampart/api.ErrNone", "twinrampart/api.ErrExist", "twinrampart/api.ErrDeny", "twinrampart/api.ErrState", "twinrampart/api.ErrHeld", "errors.errorType"], apart := false, laid := [("errors.errorType", laid_errors_errorType), ("twinrampart/api.ErrText", laid_twinrampart_api_ErrText), ("twinrampart/api.ErrBound", laid_twinrampart_api_ErrBound), ("twinrampart/api.ErrShape", laid_twinrampart_api_ErrShape), ("twinrampart/api.ErrNone", laid_twinrampart_api_ErrNone), ("twinrampart/api.ErrExist", laid_twinrampart_api_ErrExist), ("twinrampart/api.ErrFull", laid_twinrampart_api_ErrFull), ("twinrampart/api.ErrOff", laid_twinrampart_api_ErrOff), ("twinrampart/api.ErrDeny", laid_twinrampart_api_ErrDeny), ("twinrampart/api.ErrState", laid_twinrampart_api_ErrState), ("twinrampart/api.ErrOld", laid_twinrampart_api_ErrOld), ("twinrampart/api.ErrHeld", laid_twinrampart_api_ErrHeld)], narrowed := true }
def CellCutsUptoSaid : Prop := cellCutsUptoRow.holds Tryd.pinned (OpenSpec.upto cellCutsSpec)

/-- 'twinrampartlaw2.CellActs', WHERE WHAT IT READS IS OF BULK AT MOST 1048576: true; the input reads as it did. -/
def cellActsUptoRow : OpenClaim := { program := "yteakdmngllfodaadoor", sum := "71451303eca29f4be975c6cbdb6963e35b3ef26044908826ccfb3be09f3a0248", func := "twinrampart/twinrampartlaw2.CellActs", spec := "cellActs", inPlace := ["internal/reflectlite.ValueOf", "(internal/reflectlite.Value).Type", "(internal/reflectlite.Value).IsNil", "internal/reflectlite.TypeOf", "(internal/reflectlite.Value).Elem", "(internal/reflectlite.Value).Set"], unfollowed := true, recurses := true, named := ["twinrampart/api.ErrShape", "twinrampart/api.ErrOff", "twinrampart/api.ErrBound", "twinrampart/api.ErrOld", "twinrampart/api.ErrFull", "twinrampart/api.ErrText", "twinrampart/api.ErrNone", "twinrampart/api.ErrExist", "twinrampart/api.ErrDeny", "twinrampart/api.ErrState", "twinrampart/api.ErrHeld", "errors.errorType"], apart := false, laid := [("errors.errorType", laid_errors_errorType), ("twinrampart/api.ErrText", laid_twinrampart_api_ErrText), ("twinrampart/api.ErrBound", laid_twinrampart_api_ErrBound), ("twinrampart/api.ErrShape", laid_twinrampart_api_ErrShape), ("twinrampart/api.ErrNone", laid_twinrampart_api_ErrNone), ("twinrampart/api.ErrExist", laid_twinrampart_api_ErrExist), ("twinrampart/api.ErrFull", laid_twinrampart_api_ErrFull), ("twinrampart/api.ErrOff", laid_twinrampart_api_ErrOff), ("twinrampart/api.ErrDeny", laid_twinrampart_api_ErrDeny), ("twinrampart/api.ErrState", laid_twinrampart_api_ErrState), ("twinrampart/api.ErrOld", laid_twinrampart_api_ErrOld), ("twinrampart/api.ErrHeld", laid_twinrampart_api_ErrHeld)], narrowed := true }
def CellActsUptoSaid : Prop := cellActsUptoRow.holds Tryd.pinned (OpenSpec.upto cellActsSpec)

end Rows
end Go.Proofs.YteakdmngllfodaaDoor
