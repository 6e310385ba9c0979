/-
  NARROWER THAN 'FOR EVERY INPUT', by the rows' own cells (each row's printed sentence says how): PolicyFirst: laid · PolicyShadow: laid · PolicyAdmits: laid · Names: laid · NodeLives: laid · NodeTimes: laid · NodeBack: laid.
  DERIVED. THE GIVEN ROWS OF THIS SEAT. 7 by the template 'for every input the law returns true; each argument reads behind the call as it read before'; 0 by the template 'total and deterministic' (their statements: YtakdekkieobbaaaDoorTotals.lean).
  GIVEN WITH THE SEED: the statements are not yours to turn. If you find one false, say at which input.
  Laid BY PROGRAM, IN A SANDBOX (cutbox-rows.mjs): the forced cells as the released guide's own fill.sh prints them over the translation 8f403f5872e7c172… (all of the seat's roots in one cut). By AI agents, Wed Nov 11 2026. No macro, syntax, notation, axiom, sorry.
-/
import Derived.Test.YtakdekkieobbaaaDoorChecked
import GoSem.Claim
import GoSem.ClaimJoined
import GoSem.ClaimMapViews
import Derived.JoinedTies
import Derived.KernelRfl
namespace Go.Proofs.YtakdekkieobbaaaDoor
/- THE CELL 'sum', in the pinned program and in every row, IS THE sha256 OF THE DUMP (.gsa) THAT YtakdekkieobbaaaDoorProg.lean LOADS. Nothing in Lean hashes anything: it is a label: what it is worth is what the hold of that sum in a sandbox is worth. -/
noncomputable def Tryd.pinned : Pinned := { name := "ytakdekkieobbaaadoor", sum := "8f403f5872e7c172878062d122a0f41572e9f4f24965db206f96b988f3df4a70", checked := Tryd.checked }
namespace Rows
def none {H : Type} : Left H := { results := [], args := [] }

/- WHAT THE LISTED PACKAGE-LEVEL VARIABLES READ AS WHEN THE CALL BEGINS. Each datum BY PROGRAM (the guide's laid-datum.mjs) off the statement by which the dump's own 'gosem.cut.vars' lays the variable. In a bare row this is a premise. The card (YtakdekkieobbaaaDoorCards.lean) ties it to the program's text. -/
def laid_math_bits_deBruijn32tab {H : Type} : DataW H := .agg [.lit (.int .u8 0), .lit (.int .u8 1), .lit (.int .u8 28), .lit (.int .u8 2), .lit (.int .u8 29), .lit (.int .u8 14), .lit (.int .u8 24), .lit (.int .u8 3), .lit (.int .u8 30), .lit (.int .u8 22), .lit (.int .u8 20), .lit (.int .u8 15), .lit (.int .u8 25), .lit (.int .u8 17), .lit (.int .u8 4), .lit (.int .u8 8), .lit (.int .u8 31), .lit (.int .u8 27), .lit (.int .u8 13), .lit (.int .u8 23), .lit (.int .u8 21), .lit (.int .u8 19), .lit (.int .u8 16), .lit (.int .u8 7), .lit (.int .u8 26), .lit (.int .u8 12), .lit (.int .u8 18), .lit (.int .u8 6), .lit (.int .u8 11), .lit (.int .u8 5), .lit (.int .u8 10), .lit (.int .u8 9)]
def laid_math_bits_deBruijn64tab {H : Type} : DataW H := .agg [.lit (.int .u8 0), .lit (.int .u8 1), .lit (.int .u8 56), .lit (.int .u8 2), .lit (.int .u8 57), .lit (.int .u8 49), .lit (.int .u8 28), .lit (.int .u8 3), .lit (.int .u8 61), .lit (.int .u8 58), .lit (.int .u8 42), .lit (.int .u8 50), .lit (.int .u8 38), .lit (.int .u8 29), .lit (.int .u8 17), .lit (.int .u8 4), .lit (.int .u8 62), .lit (.int .u8 47), .lit (.int .u8 59), .lit (.int .u8 36), .lit (.int .u8 45), .lit (.int .u8 43), .lit (.int .u8 51), .lit (.int .u8 22), .lit (.int .u8 53), .lit (.int .u8 39), .lit (.int .u8 33), .lit (.int .u8 30), .lit (.int .u8 24), .lit (.int .u8 18), .lit (.int .u8 12), .lit (.int .u8 5), .lit (.int .u8 63), .lit (.int .u8 55), .lit (.int .u8 48), .lit (.int .u8 27), .lit (.int .u8 60), .lit (.int .u8 41), .lit (.int .u8 37), .lit (.int .u8 16), .lit (.int .u8 46), .lit (.int .u8 35), .lit (.int .u8 44), .lit (.int .u8 21), .lit (.int .u8 52), .lit (.int .u8 32), .lit (.int .u8 23), .lit (.int .u8 11), .lit (.int .u8 54), .lit (.int .u8 26), .lit (.int .u8 40), .lit (.int .u8 15), .lit (.int .u8 34), .lit (.int .u8 20), .lit (.int .u8 31), .lit (.int .u8 10), .lit (.int .u8 25), .lit (.int .u8 14), .lit (.int .u8 19), .lit (.int .u8 9), .lit (.int .u8 13), .lit (.int .u8 8), .lit (.int .u8 7), .lit (.int .u8 6)]
def laid_internal_strconv_uint64pow10 {H : Type} : DataW H := .agg [.lit (.int .u64 1), .lit (.int .u64 10), .lit (.int .u64 100), .lit (.int .u64 1000), .lit (.int .u64 10000), .lit (.int .u64 100000), .lit (.int .u64 1000000), .lit (.int .u64 10000000), .lit (.int .u64 100000000), .lit (.int .u64 1000000000), .lit (.int .u64 10000000000), .lit (.int .u64 100000000000), .lit (.int .u64 1000000000000), .lit (.int .u64 10000000000000), .lit (.int .u64 100000000000000), .lit (.int .u64 1000000000000000), .lit (.int .u64 10000000000000000), .lit (.int .u64 100000000000000000), .lit (.int .u64 1000000000000000000), .lit (.int .u64 10000000000000000000)]
def laid_twinrampart_api_ErrBound {H : Type} : DataW H := .iface "*errors.errorString" (.ptr (.agg [.lit (.string [116, 119, 105, 110, 114, 97, 109, 112, 97, 114, 116, 58, 32, 98, 111, 117, 110, 100])]))
def laid_twinrampart_api_ErrShape {H : Type} : DataW H := .iface "*errors.errorString" (.ptr (.agg [.lit (.string [116, 119, 105, 110, 114, 97, 109, 112, 97, 114, 116, 58, 32, 115, 104, 97, 112, 101])]))
def laid_twinrampart_policy_protos {H : Type} : DataW H := .agg [.lit (.string [97, 110, 121]), .lit (.string [117, 100, 112]), .lit (.string [116, 99, 112])]
def laid_errors_errorType {H : Type} : DataW H := .iface "internal/reflectlite.rtype" (.agg [.ptr (.lit (.string [101, 114, 114, 111, 114]))])
def laid_twinrampart_api_ErrText {H : Type} : DataW H := .iface "*errors.errorString" (.ptr (.agg [.lit (.string [116, 119, 105, 110, 114, 97, 109, 112, 97, 114, 116, 58, 32, 116, 101, 120, 116])]))
def laid_twinrampart_api_ErrNone {H : Type} : DataW H := .iface "*errors.errorString" (.ptr (.agg [.lit (.string [116, 119, 105, 110, 114, 97, 109, 112, 97, 114, 116, 58, 32, 110, 111, 110, 101])]))
def laid_twinrampart_api_ErrExist {H : Type} : DataW H := .iface "*errors.errorString" (.ptr (.agg [.lit (.string [116, 119, 105, 110, 114, 97, 109, 112, 97, 114, 116, 58, 32, 101, 120, 105, 115, 116])]))
def laid_twinrampart_api_ErrFull {H : Type} : DataW H := .iface "*errors.errorString" (.ptr (.agg [.lit (.string [116, 119, 105, 110, 114, 97, 109, 112, 97, 114, 116, 58, 32, 102, 117, 108, 108])]))
def laid_twinrampart_api_ErrOff {H : Type} : DataW H := .iface "*errors.errorString" (.ptr (.agg [.lit (.string [116, 119, 105, 110, 114, 97, 109, 112, 97, 114, 116, 58, 32, 111, 102, 102])]))
def laid_twinrampart_api_ErrDeny {H : Type} : DataW H := .iface "*errors.errorString" (.ptr (.agg [.lit (.string [116, 119, 105, 110, 114, 97, 109, 112, 97, 114, 116, 58, 32, 100, 101, 110, 121])]))
def laid_twinrampart_api_ErrState {H : Type} : DataW H := .iface "*errors.errorString" (.ptr (.agg [.lit (.string [116, 119, 105, 110, 114, 97, 109, 112, 97, 114, 116, 58, 32, 115, 116, 97, 116, 101])]))
def laid_twinrampart_api_ErrOld {H : Type} : DataW H := .iface "*errors.errorString" (.ptr (.agg [.lit (.string [116, 119, 105, 110, 114, 97, 109, 112, 97, 114, 116, 58, 32, 111, 108, 100])]))
def laid_twinrampart_api_ErrHeld {H : Type} : DataW H := .iface "*errors.errorString" (.ptr (.agg [.lit (.string [116, 119, 105, 110, 114, 97, 109, 112, 97, 114, 116, 58, 32, 104, 101, 108, 100])]))

/-- 'twinrampartlaw1.PolicyFirst': WHATEVER THE INPUT: true; the input reads as it did. -/
def policyFirstSpec : ChangeSpec := { name := "policyFirst", fn := fun _ => fun
  | [d1, d2, d3, d4] => { results := [.lit (.bool true)], args := [d1, d2, d3, d4] }
  | _ => none }
def policyFirstRow : OpenClaim := { program := "ytakdekkieobbaaadoor", sum := "8f403f5872e7c172878062d122a0f41572e9f4f24965db206f96b988f3df4a70", func := "twinrampart/twinrampartlaw1.PolicyFirst", spec := "policyFirst", inPlace := ["internal/abi.NoEscape", "internal/bytealg.MakeNoZero"], unfollowed := true, recurses := true, named := ["twinrampart/api.ErrBound", "twinrampart/api.ErrShape", "twinrampart/policy.protos", "internal/strconv.uint64pow10", "math/bits.deBruijn32tab", "math/bits.deBruijn64tab"], plainKeys := false, apart := false, laid := [("math/bits.deBruijn32tab", laid_math_bits_deBruijn32tab), ("math/bits.deBruijn64tab", laid_math_bits_deBruijn64tab), ("internal/strconv.uint64pow10", laid_internal_strconv_uint64pow10), ("twinrampart/api.ErrBound", laid_twinrampart_api_ErrBound), ("twinrampart/api.ErrShape", laid_twinrampart_api_ErrShape), ("twinrampart/policy.protos", laid_twinrampart_policy_protos)] }
def PolicyFirstSaid : Prop := policyFirstRow.holds Tryd.pinned (OpenSpec.ofChange policyFirstSpec)

/-- ITS FALSE NEIGHBOUR: 'it returns false'. Refute it at one input. -/
def policyFirstWrong : ChangeSpec := { name := "policyFirst", fn := fun _ => fun
  | [d1, d2, d3, d4] => { results := [.lit (.bool false)], args := [d1, d2, d3, d4] }
  | _ => none }
def PolicyFirstWrongFalsely : Prop := policyFirstRow.holds Tryd.pinned (OpenSpec.ofChange policyFirstWrong)

/-- 'twinrampartlaw1.PolicyShadow': WHATEVER THE INPUT: true; the input reads as it did. -/
def policyShadowSpec : ChangeSpec := { name := "policyShadow", fn := fun _ => fun
  | [d1, d2, d3] => { results := [.lit (.bool true)], args := [d1, d2, d3] }
  | _ => none }
def policyShadowRow : OpenClaim := { program := "ytakdekkieobbaaadoor", sum := "8f403f5872e7c172878062d122a0f41572e9f4f24965db206f96b988f3df4a70", func := "twinrampart/twinrampartlaw1.PolicyShadow", spec := "policyShadow", inPlace := ["internal/abi.NoEscape", "internal/bytealg.MakeNoZero"], unfollowed := true, recurses := true, named := ["twinrampart/api.ErrBound", "twinrampart/api.ErrShape", "twinrampart/policy.protos", "internal/strconv.uint64pow10", "math/bits.deBruijn32tab", "math/bits.deBruijn64tab"], plainKeys := false, apart := false, laid := [("math/bits.deBruijn32tab", laid_math_bits_deBruijn32tab), ("math/bits.deBruijn64tab", laid_math_bits_deBruijn64tab), ("internal/strconv.uint64pow10", laid_internal_strconv_uint64pow10), ("twinrampart/api.ErrBound", laid_twinrampart_api_ErrBound), ("twinrampart/api.ErrShape", laid_twinrampart_api_ErrShape), ("twinrampart/policy.protos", laid_twinrampart_policy_protos)] }
def PolicyShadowSaid : Prop := policyShadowRow.holds Tryd.pinned (OpenSpec.ofChange policyShadowSpec)

/-- ITS FALSE NEIGHBOUR: 'it returns false'. Refute it at one input. -/
def policyShadowWrong : ChangeSpec := { name := "policyShadow", fn := fun _ => fun
  | [d1, d2, d3] => { results := [.lit (.bool false)], args := [d1, d2, d3] }
  | _ => none }
def PolicyShadowWrongFalsely : Prop := policyShadowRow.holds Tryd.pinned (OpenSpec.ofChange policyShadowWrong)

/-- 'twinrampartlaw1.PolicyAdmits': WHATEVER THE INPUT: true; the input reads as it did. -/
def policyAdmitsSpec : ChangeSpec := { name := "policyAdmits", fn := fun _ => fun
  | [d1, d2, d3, d4] => { results := [.lit (.bool true)], args := [d1, d2, d3, d4] }
  | _ => none }
def policyAdmitsRow : OpenClaim := { program := "ytakdekkieobbaaadoor", sum := "8f403f5872e7c172878062d122a0f41572e9f4f24965db206f96b988f3df4a70", func := "twinrampart/twinrampartlaw1.PolicyAdmits", spec := "policyAdmits", inPlace := ["internal/abi.NoEscape", "internal/bytealg.MakeNoZero", "internal/reflectlite.ValueOf", "(internal/reflectlite.Value).Type", "(internal/reflectlite.Value).IsNil", "internal/reflectlite.TypeOf", "(internal/reflectlite.Value).Elem", "(internal/reflectlite.Value).Set"], unfollowed := true, recurses := true, named := ["twinrampart/api.ErrBound", "twinrampart/api.ErrShape", "twinrampart/policy.protos", "internal/strconv.uint64pow10", "math/bits.deBruijn32tab", "math/bits.deBruijn64tab", "twinrampart/api.ErrText", "twinrampart/api.ErrNone", "twinrampart/api.ErrExist", "twinrampart/api.ErrFull", "twinrampart/api.ErrOff", "twinrampart/api.ErrDeny", "twinrampart/api.ErrState", "twinrampart/api.ErrOld", "twinrampart/api.ErrHeld", "errors.errorType"], plainKeys := false, apart := false, laid := [("math/bits.deBruijn32tab", laid_math_bits_deBruijn32tab), ("math/bits.deBruijn64tab", laid_math_bits_deBruijn64tab), ("internal/strconv.uint64pow10", laid_internal_strconv_uint64pow10), ("errors.errorType", laid_errors_errorType), ("twinrampart/api.ErrText", laid_twinrampart_api_ErrText), ("twinrampart/api.ErrBound", laid_twinrampart_api_ErrBound), ("twinrampart/api.ErrShape", laid_twinrampart_api_ErrShape), ("twinrampart/api.ErrNone", laid_twinrampart_api_ErrNone), ("twinrampart/api.ErrExist", laid_twinrampart_api_ErrExist), ("twinrampart/api.ErrFull", laid_twinrampart_api_ErrFull), ("twinrampart/api.ErrOff", laid_twinrampart_api_ErrOff), ("twinrampart/api.ErrDeny", laid_twinrampart_api_ErrDeny), ("twinrampart/api.ErrState", laid_twinrampart_api_ErrState), ("twinrampart/api.ErrOld", laid_twinrampart_api_ErrOld), ("twinrampart/api.ErrHeld", laid_twinrampart_api_ErrHeld), ("twinrampart/policy.protos", laid_twinrampart_policy_protos)] }
def PolicyAdmitsSaid : Prop := policyAdmitsRow.holds Tryd.pinned (OpenSpec.ofChange policyAdmitsSpec)

/-- ITS FALSE NEIGHBOUR: 'it returns false'. Refute it at one input. -/
def policyAdmitsWrong : ChangeSpec := { name := "policyAdmits", fn := fun _ => fun
  | [d1, d2, d3, d4] => { results := [.lit (.bool false)], args := [d1, d2, d3, d4] }
  | _ => none }
def PolicyAdmitsWrongFalsely : Prop := policyAdmitsRow.holds Tryd.pinned (OpenSpec.ofChange policyAdmitsWrong)

/-- 'twinrampartlaw1.Names': WHATEVER THE INPUT: true; the input reads as it did. -/
def namesSpec : ChangeSpec := { name := "names", fn := fun _ => fun
  | [] => { results := [.lit (.bool true)], args := [] }
  | _ => none }
def namesRow : OpenClaim := { program := "ytakdekkieobbaaadoor", sum := "8f403f5872e7c172878062d122a0f41572e9f4f24965db206f96b988f3df4a70", func := "twinrampart/twinrampartlaw1.Names", spec := "names", inPlace := ["internal/reflectlite.ValueOf", "(internal/reflectlite.Value).Type", "(internal/reflectlite.Value).IsNil", "internal/reflectlite.TypeOf", "(internal/reflectlite.Value).Elem", "(internal/reflectlite.Value).Set"], unfollowed := true, recurses := true, named := ["twinrampart/api.ErrText", "twinrampart/api.ErrBound", "twinrampart/api.ErrShape", "twinrampart/api.ErrNone", "twinrampart/api.ErrExist", "twinrampart/api.ErrFull", "twinrampart/api.ErrOff", "twinrampart/api.ErrDeny", "twinrampart/api.ErrState", "twinrampart/api.ErrOld", "twinrampart/api.ErrHeld", "errors.errorType"], plainKeys := false, apart := false, laid := [("errors.errorType", laid_errors_errorType), ("twinrampart/api.ErrText", laid_twinrampart_api_ErrText), ("twinrampart/api.ErrBound", laid_twinrampart_api_ErrBound), ("twinrampart/api.ErrShape", laid_twinrampart_api_ErrShape), ("twinrampart/api.ErrNone", laid_twinrampart_api_ErrNone), ("twinrampart/api.ErrExist", laid_twinrampart_api_ErrExist), ("twinrampart/api.ErrFull", laid_twinrampart_api_ErrFull), ("twinrampart/api.ErrOff", laid_twinrampart_api_ErrOff), ("twinrampart/api.ErrDeny", laid_twinrampart_api_ErrDeny), ("twinrampart/api.ErrState", laid_twinrampart_api_ErrState), ("twinrampart/api.ErrOld", laid_twinrampart_api_ErrOld), ("twinrampart/api.ErrHeld", laid_twinrampart_api_ErrHeld)] }
def NamesSaid : Prop := namesRow.holds Tryd.pinned (OpenSpec.ofChange namesSpec)

/-- ITS FALSE NEIGHBOUR: 'it returns false'. Refute it at one input. -/
def namesWrong : ChangeSpec := { name := "names", fn := fun _ => fun
  | [] => { results := [.lit (.bool false)], args := [] }
  | _ => none }
def NamesWrongFalsely : Prop := namesRow.holds Tryd.pinned (OpenSpec.ofChange namesWrong)

/-- 'twinrampartlaw2.NodeLives': WHATEVER THE INPUT: true; the input reads as it did. -/
def nodeLivesSpec : ChangeSpec := { name := "nodeLives", fn := fun _ => fun
  | [d1, d2] => { results := [.lit (.bool true)], args := [d1, d2] }
  | _ => none }
def nodeLivesRow : OpenClaim := { program := "ytakdekkieobbaaadoor", sum := "8f403f5872e7c172878062d122a0f41572e9f4f24965db206f96b988f3df4a70", func := "twinrampart/twinrampartlaw2.NodeLives", spec := "nodeLives", unfollowed := true, recurses := true, named := ["twinrampart/api.ErrBound", "twinrampart/api.ErrShape", "twinrampart/api.ErrOff", "twinrampart/api.ErrOld", "twinrampart/api.ErrFull", "twinrampart/api.ErrNone", "twinrampart/api.ErrHeld", "twinrampart/api.ErrExist"], plainKeys := false, apart := false, laid := [("twinrampart/api.ErrBound", laid_twinrampart_api_ErrBound), ("twinrampart/api.ErrShape", laid_twinrampart_api_ErrShape), ("twinrampart/api.ErrNone", laid_twinrampart_api_ErrNone), ("twinrampart/api.ErrExist", laid_twinrampart_api_ErrExist), ("twinrampart/api.ErrFull", laid_twinrampart_api_ErrFull), ("twinrampart/api.ErrOff", laid_twinrampart_api_ErrOff), ("twinrampart/api.ErrOld", laid_twinrampart_api_ErrOld), ("twinrampart/api.ErrHeld", laid_twinrampart_api_ErrHeld)] }
def NodeLivesSaid : Prop := nodeLivesRow.holds Tryd.pinned (OpenSpec.ofChange nodeLivesSpec)

/-- ITS FALSE NEIGHBOUR: 'it returns false'. Refute it at one input. -/
def nodeLivesWrong : ChangeSpec := { name := "nodeLives", fn := fun _ => fun
  | [d1, d2] => { results := [.lit (.bool false)], args := [d1, d2] }
  | _ => none }
def NodeLivesWrongFalsely : Prop := nodeLivesRow.holds Tryd.pinned (OpenSpec.ofChange nodeLivesWrong)

/-- 'twinrampartlaw2.NodeTimes': WHATEVER THE INPUT: true; the input reads as it did. -/
def nodeTimesSpec : ChangeSpec := { name := "nodeTimes", fn := fun _ => fun
  | [d1, d2, d3, d4, d5] => { results := [.lit (.bool true)], args := [d1, d2, d3, d4, d5] }
  | _ => none }
def nodeTimesRow : OpenClaim := { program := "ytakdekkieobbaaadoor", sum := "8f403f5872e7c172878062d122a0f41572e9f4f24965db206f96b988f3df4a70", func := "twinrampart/twinrampartlaw2.NodeTimes", spec := "nodeTimes", unfollowed := true, recurses := true, named := ["twinrampart/api.ErrBound", "twinrampart/api.ErrShape", "twinrampart/api.ErrOff", "twinrampart/api.ErrOld", "twinrampart/api.ErrFull", "twinrampart/api.ErrNone", "twinrampart/api.ErrHeld", "twinrampart/api.ErrExist", "twinrampart/api.ErrState", "twinrampart/api.ErrDeny"], plainKeys := false, apart := false, laid := [("twinrampart/api.ErrBound", laid_twinrampart_api_ErrBound), ("twinrampart/api.ErrShape", laid_twinrampart_api_ErrShape), ("twinrampart/api.ErrNone", laid_twinrampart_api_ErrNone), ("twinrampart/api.ErrExist", laid_twinrampart_api_ErrExist), ("twinrampart/api.ErrFull", laid_twinrampart_api_ErrFull), ("twinrampart/api.ErrOff", laid_twinrampart_api_ErrOff), ("twinrampart/api.ErrDeny", laid_twinrampart_api_ErrDeny), ("twinrampart/api.ErrState", laid_twinrampart_api_ErrState), ("twinrampart/api.ErrOld", laid_twinrampart_api_ErrOld), ("twinrampart/api.ErrHeld", laid_twinrampart_api_ErrHeld)] }
def NodeTimesSaid : Prop := nodeTimesRow.holds Tryd.pinned (OpenSpec.ofChange nodeTimesSpec)

/-- ITS FALSE NEIGHBOUR: 'it returns false'. Refute it at one input. -/
def nodeTimesWrong : ChangeSpec := { name := "nodeTimes", fn := fun _ => fun
  | [d1, d2, d3, d4, d5] => { results := [.lit (.bool false)], args := [d1, d2, d3, d4, d5] }
  | _ => none }
def NodeTimesWrongFalsely : Prop := nodeTimesRow.holds Tryd.pinned (OpenSpec.ofChange nodeTimesWrong)

/-- 'twinrampartlaw2.NodeBack': WHATEVER THE INPUT: true; the input reads as it did. -/
def nodeBackSpec : ChangeSpec := { name := "nodeBack", fn := fun _ => fun
  | [d1, d2, d3, d4, d5] => { results := [.lit (.bool true)], args := [d1, d2, d3, d4, d5] }
  | _ => none }
def nodeBackRow : OpenClaim := { program := "ytakdekkieobbaaadoor", sum := "8f403f5872e7c172878062d122a0f41572e9f4f24965db206f96b988f3df4a70", func := "twinrampart/twinrampartlaw2.NodeBack", spec := "nodeBack", unfollowed := true, recurses := true, named := ["twinrampart/api.ErrBound", "twinrampart/api.ErrShape", "twinrampart/api.ErrOff", "twinrampart/api.ErrOld", "twinrampart/api.ErrFull", "twinrampart/api.ErrNone", "twinrampart/api.ErrHeld", "twinrampart/api.ErrExist", "twinrampart/api.ErrState", "twinrampart/api.ErrDeny"], plainKeys := false, apart := false, laid := [("twinrampart/api.ErrBound", laid_twinrampart_api_ErrBound), ("twinrampart/api.ErrShape", laid_twinrampart_api_ErrShape), ("twinrampart/api.ErrNone", laid_twinrampart_api_ErrNone), ("twinrampart/api.ErrExist", laid_twinrampart_api_ErrExist), ("twinrampart/api.ErrFull", laid_twinrampart_api_ErrFull), ("twinrampart/api.ErrOff", laid_twinrampart_api_ErrOff), ("twinrampart/api.ErrDeny", laid_twinrampart_api_ErrDeny), ("twinrampart/api.ErrState", laid_twinrampart_api_ErrState), ("twinrampart/api.ErrOld", laid_twinrampart_api_ErrOld), ("twinrampart/api.ErrHeld", laid_twinrampart_api_ErrHeld)] }
def NodeBackSaid : Prop := nodeBackRow.holds Tryd.pinned (OpenSpec.ofChange nodeBackSpec)

/-- ITS FALSE NEIGHBOUR: 'it returns false'. Refute it at one input. -/
def nodeBackWrong : ChangeSpec := { name := "nodeBack", fn := fun _ => fun
  | [d1, d2, d3, d4, d5] => { results := [.lit (.bool false)], args := [d1, d2, d3, d4, d5] }
  | _ => none }
def NodeBackWrongFalsely : Prop := nodeBackRow.holds Tryd.pinned (OpenSpec.ofChange nodeBackWrong)

/- THE SECOND FORM. 'bulk': how many values and letters a reading holds, each counted each time it is reached (what is shared counts as often as it is met; a slice's spare places count too). A statement '..UptoSaid' is the law's where the arguments, and the package variables that the reading takes, are together of bulk at most 1048576: NARROWER than '..Said'. Prove '..Said' where nothing that the law and all that it calls make is longer than what came in: it says more and counts as full. Else prove '..UptoSaid'. A law counts once. -/
mutual
def uptoBulk {H : Type} : DataW H → Nat
  | .lit (.string bytes) => bytes.length + 1
  | .lit _ => 1
  | .nil => 1
  | .ptr d => uptoBulk d + 1
  | .slice elems spare => uptoBulkAll elems + uptoBulkAll spare + 1
  | .agg parts => uptoBulkAll parts + 1
  | .iface _ d => uptoBulk d + 1
  | .map entries => uptoBulkEntries entries + 1
  | .held _ => 1
def uptoBulkAll {H : Type} : List (DataW H) → Nat
  | [] => 0
  | d :: r => uptoBulk d + uptoBulkAll r
def uptoBulkEntries {H : Type} : List (Lit × DataW H) → Nat
  | [] => 0
  | x :: r => uptoBulkEntry x + uptoBulkEntries r
def uptoBulkEntry {H : Type} : Lit × DataW H → Nat
  | (.string bytes, d) => bytes.length + uptoBulk d + 1
  | (_, d) => uptoBulk d + 1
 end
def uptoSmall : (H : Type) → List (DataW H) → Bool := fun _ ds => decide (uptoBulkAll ds ≤ 1048576)
def OpenSpec.upto (s : _root_.Go.ChangeSpec) : _root_.Go.OpenSpec := { _root_.Go.OpenSpec.ofChange s with cond := some uptoSmall }

/-- 'twinrampartlaw1.PolicyFirst', WHERE WHAT IT READS IS OF BULK AT MOST 1048576: true; the input reads as it did. -/
def policyFirstUptoRow : OpenClaim := { program := "ytakdekkieobbaaadoor", sum := "8f403f5872e7c172878062d122a0f41572e9f4f24965db206f96b988f3df4a70", func := "twinrampart/twinrampartlaw1.PolicyFirst", spec := "policyFirst", inPlace := ["internal/abi.NoEscape", "internal/bytealg.MakeNoZero"], unfollowed := true, recurses := true, named := ["twinrampart/api.ErrBound", "twinrampart/api.ErrShape", "twinrampart/policy.protos", "internal/strconv.uint64pow10", "math/bits.deBruijn32tab", "math/bits.deBruijn64tab"], plainKeys := false, apart := false, laid := [("math/bits.deBruijn32tab", laid_math_bits_deBruijn32tab), ("math/bits.deBruijn64tab", laid_math_bits_deBruijn64tab), ("internal/strconv.uint64pow10", laid_internal_strconv_uint64pow10), ("twinrampart/api.ErrBound", laid_twinrampart_api_ErrBound), ("twinrampart/api.ErrShape", laid_twinrampart_api_ErrShape), ("twinrampart/policy.protos", laid_twinrampart_policy_protos)], narrowed := true }
def PolicyFirstUptoSaid : Prop := policyFirstUptoRow.holds Tryd.pinned (OpenSpec.upto policyFirstSpec)

/-- 'twinrampartlaw1.PolicyShadow', WHERE WHAT IT READS IS OF BULK AT MOST 1048576: true; the input reads as it did. -/
def policyShadowUptoRow : OpenClaim := { program := "ytakdekkieobbaaadoor", sum := "8f403f5872e7c172878062d122a0f41572e9f4f24965db206f96b988f3df4a70", func := "twinrampart/twinrampartlaw1.PolicyShadow", spec := "policyShadow", inPlace := ["internal/abi.NoEscape", "internal/bytealg.MakeNoZero"], unfollowed := true, recurses := true, named := ["twinrampart/api.ErrBound", "twinrampart/api.ErrShape", "twinrampart/policy.protos", "internal/strconv.uint64pow10", "math/bits.deBruijn32tab", "math/bits.deBruijn64tab"], plainKeys := false, apart := false, laid := [("math/bits.deBruijn32tab", laid_math_bits_deBruijn32tab), ("math/bits.deBruijn64tab", laid_math_bits_deBruijn64tab), ("internal/strconv.uint64pow10", laid_internal_strconv_uint64pow10), ("twinrampart/api.ErrBound", laid_twinrampart_api_ErrBound), ("twinrampart/api.ErrShape", laid_twinrampart_api_ErrShape), ("twinrampart/policy.protos", laid_twinrampart_policy_protos)], narrowed := true }
def PolicyShadowUptoSaid : Prop := policyShadowUptoRow.holds Tryd.pinned (OpenSpec.upto policyShadowSpec)

/-- 'twinrampartlaw1.PolicyAdmits', WHERE WHAT IT READS IS OF BULK AT MOST 1048576: true; the input reads as it did. -/
def policyAdmitsUptoRow : OpenClaim := { program := "ytakdekkieobbaaadoor", sum := "8f403f5872e7c172878062d122a0f41572e9f4f24965db206f96b988f3df4a70", func := "twinrampart/twinrampartlaw1.PolicyAdmits", spec := "policyAdmits", inPlace := ["internal/abi.NoEscape", "internal/bytealg.MakeNoZero", "internal/reflectlite.ValueOf", "(internal/reflectlite.Value).Type", "(internal/reflectlite.Value).IsNil", "internal/reflectlite.TypeOf", "(internal/reflectlite.Value).Elem", "(internal/reflectlite.Value).Set"], unfollowed := true, recurses := true, named := ["twinrampart/api.ErrBound", "twinrampart/api.ErrShape", "twinrampart/policy.protos", "internal/strconv.uint64pow10", "math/bits.deBruijn32tab", "math/bits.deBruijn64tab", "twinrampart/api.ErrText", "twinrampart/api.ErrNone", "twinrampart/api.ErrExist", "twinrampart/api.ErrFull", "twinrampart/api.ErrOff", "twinrampart/api.ErrDeny", "twinrampart/api.ErrState", "twinrampart/api.ErrOld", "twinrampart/api.ErrHeld", "errors.errorType"], plainKeys := false, apart := false, laid := [("math/bits.deBruijn32tab", laid_math_bits_deBruijn32tab), ("math/bits.deBruijn64tab", laid_math_bits_deBruijn64tab), ("internal/strconv.uint64pow10", laid_internal_strconv_uint64pow10), ("errors.errorType", laid_errors_errorType), ("twinrampart/api.ErrText", laid_twinrampart_api_ErrText), ("twinrampart/api.ErrBound", laid_twinrampart_api_ErrBound), ("twinrampart/api.ErrShape", laid_twinrampart_api_ErrShape), ("twinrampart/api.ErrNone", laid_twinrampart_api_ErrNone), ("twinrampart/api.ErrExist", laid_twinrampart_api_ErrExist), ("twinrampart/api.ErrFull", laid_twinrampart_api_ErrFull), ("twinrampart/api.ErrOff", laid_twinrampart_api_ErrOff), ("twinrampart/api.ErrDeny", laid_twinrampart_api_ErrDeny), ("twinrampart/api.ErrState", laid_twinrampart_api_ErrState), ("twinrampart/api.ErrOld", laid_twinrampart_api_ErrOld), ("twinrampart/api.ErrHeld", laid_twinrampart_api_ErrHeld), ("twinrampart/policy.protos", laid_twinrampart_policy_protos)], narrowed := true }
def PolicyAdmitsUptoSaid : Prop := policyAdmitsUptoRow.holds Tryd.pinned (OpenSpec.upto policyAdmitsSpec)

/-- 'twinrampartlaw1.Names', WHERE WHAT IT READS IS OF BULK AT MOST 1048576: true; the input reads as it did. -/
def namesUptoRow : OpenClaim := { program := "ytakdekkieobbaaadoor", sum := "8f403f5872e7c172878062d122a0f41572e9f4f24965db206f96b988f3df4a70", func := "twinrampart/twinrampartlaw1.Names", spec := "names", inPlace := ["internal/reflectlite.ValueOf", "(internal/reflectlite.Value).Type", "(internal/reflectlite.Value).IsNil", "internal/reflectlite.TypeOf", "(internal/reflectlite.Value).Elem", "(internal/reflectlite.Value).Set"], unfollowed := true, recurses := true, named := ["twinrampart/api.ErrText", "twinrampart/api.ErrBound", "twinrampart/api.ErrShape", "twinrampart/api.ErrNone", "twinrampart/api.ErrExist", "twinrampart/api.ErrFull", "twinrampart/api.ErrOff", "twinrampart/api.ErrDeny", "twinrampart/api.ErrState", "twinrampart/api.ErrOld", "twinrampart/api.ErrHeld", "errors.errorType"], plainKeys := false, apart := false, laid := [("errors.errorType", laid_errors_errorType), ("twinrampart/api.ErrText", laid_twinrampart_api_ErrText), ("twinrampart/api.ErrBound", laid_twinrampart_api_ErrBound), ("twinrampart/api.ErrShape", laid_twinrampart_api_ErrShape), ("twinrampart/api.ErrNone", laid_twinrampart_api_ErrNone), ("twinrampart/api.ErrExist", laid_twinrampart_api_ErrExist), ("twinrampart/api.ErrFull", laid_twinrampart_api_ErrFull), ("twinrampart/api.ErrOff", laid_twinrampart_api_ErrOff), ("twinrampart/api.ErrDeny", laid_twinrampart_api_ErrDeny), ("twinrampart/api.ErrState", laid_twinrampart_api_ErrState), ("twinrampart/api.ErrOld", laid_twinrampart_api_ErrOld), ("twinrampart/api.ErrHeld", laid_twinrampart_api_ErrHeld)], narrowed := true }
def NamesUptoSaid : Prop := namesUptoRow.holds Tryd.pinned (OpenSpec.upto namesSpec)

/-- 'twinrampartlaw2.NodeLives', WHERE WHAT IT READS IS OF BULK AT MOST 1048576: true; the input reads as it did. -/
def nodeLivesUptoRow : OpenClaim := { program := "ytakdekkieobbaaadoor", sum := "8f403f5872e7c172878062d122a0f41572e9f4f24965db206f96b988f3df4a70", func := "twinrampart/twinrampartlaw2.NodeLives", spec := "nodeLives", unfollowed := true, recurses := true, named := ["twinrampart/api.ErrBound", "twinrampart/api.ErrShape", "twinrampart/api.ErrOff", "twinrampart/api.ErrOld", "twinrampart/api.ErrFull", "twinrampart/api.ErrNone", "twinrampart/api.ErrHeld", "twinrampart/api.ErrExist"], plainKeys := false, apart := false, laid := [("twinrampart/api.ErrBound", laid_twinrampart_api_ErrBound), ("twinrampart/api.ErrShape", laid_twinrampart_api_ErrShape), ("twinrampart/api.ErrNone", laid_twinrampart_api_ErrNone), ("twinrampart/api.ErrExist", laid_twinrampart_api_ErrExist), ("twinrampart/api.ErrFull", laid_twinrampart_api_ErrFull), ("twinrampart/api.ErrOff", laid_twinrampart_api_ErrOff), ("twinrampart/api.ErrOld", laid_twinrampart_api_ErrOld), ("twinrampart/api.ErrHeld", laid_twinrampart_api_ErrHeld)], narrowed := true }
def NodeLivesUptoSaid : Prop := nodeLivesUptoRow.holds Tryd.pinned (OpenSpec.upto nodeLivesSpec)

/-- 'twinrampartlaw2.NodeTimes', WHERE WHAT IT READS IS OF BULK AT MOST 1048576: true; the input reads as it did. -/
def nodeTimesUptoRow : OpenClaim := { program := "ytakdekkieobbaaadoor", sum := "8f403f5872e7c172878062d122a0f41572e9f4f24965db206f96b988f3df4a70", func := "twinrampart/twinrampartlaw2.NodeTimes", spec := "nodeTimes", unfollowed := true, recurses := true, named := ["twinrampart/api.ErrBound", "twinrampart/api.ErrShape", "twinrampart/api.ErrOff", "twinrampart/api.ErrOld", "twinrampart/api.ErrFull", "twinrampart/api.ErrNone", "twinrampart/api.ErrHeld", "twinrampart/api.ErrExist", "twinrampart/api.ErrState", "twinrampart/api.ErrDeny"], plainKeys := false, apart := false, laid := [("twinrampart/api.ErrBound", laid_twinrampart_api_ErrBound), ("twinrampart/api.ErrShape", laid_twinrampart_api_ErrShape), ("twinrampart/api.ErrNone", laid_twinrampart_api_ErrNone), ("twinrampart/api.ErrExist", laid_twinrampart_api_ErrExist), ("twinrampart/api.ErrFull", laid_twinrampart_api_ErrFull), ("twinrampart/api.ErrOff", laid_twinrampart_api_ErrOff), ("twinrampart/api.ErrDeny", laid_twinrampart_api_ErrDeny), ("twinrampart/api.ErrState", laid_twinrampart_api_ErrState), ("twinrampart/api.ErrOld", laid_twinrampart_api_ErrOld), ("twinrampart/api.ErrHeld", laid_twinrampart_api_ErrHeld)], narrowed := true }
def NodeTimesUptoSaid : Prop := nodeTimesUptoRow.holds Tryd.pinned (OpenSpec.upto nodeTimesSpec)

/-- 'twinrampartlaw2.NodeBack', WHERE WHAT IT READS IS OF BULK AT MOST 1048576: true; the input reads as it did. -/
def nodeBackUptoRow : OpenClaim := { program := "ytakdekkieobbaaadoor", sum := "8f403f5872e7c172878062d122a0f41572e9f4f24965db206f96b988f3df4a70", func := "twinrampart/twinrampartlaw2.NodeBack", spec := "nodeBack", unfollowed := true, recurses := true, named := ["twinrampart/api.ErrBound", "twinrampart/api.ErrShape", "twinrampart/api.ErrOff", "twinrampart/api.ErrOld", "twinrampart/api.ErrFull", "twinrampart/api.ErrNone", "twinrampart/api.ErrHeld", "twinrampart/api.ErrExist", "twinrampart/api.ErrState", "twinrampart/api.ErrDeny"], plainKeys := false, apart := false, laid := [("twinrampart/api.ErrBound", laid_twinrampart_api_ErrBound), ("twinrampart/api.ErrShape", laid_twinrampart_api_ErrShape), ("twinrampart/api.ErrNone", laid_twinrampart_api_ErrNone), ("twinrampart/api.ErrExist", laid_twinrampart_api_ErrExist), ("twinrampart/api.ErrFull", laid_twinrampart_api_ErrFull), ("twinrampart/api.ErrOff", laid_twinrampart_api_ErrOff), ("twinrampart/api.ErrDeny", laid_twinrampart_api_ErrDeny), ("twinrampart/api.ErrState", laid_twinrampart_api_ErrState), ("twinrampart/api.ErrOld", laid_twinrampart_api_ErrOld), ("twinrampart/api.ErrHeld", laid_twinrampart_api_ErrHeld)], narrowed := true }
def NodeBackUptoSaid : Prop := nodeBackUptoRow.holds Tryd.pinned (OpenSpec.upto nodeBackSpec)

end Rows
end Go.Proofs.YtakdekkieobbaaaDoor
