
/-
  errors.As at a target of **api.Fault, errors.Is, plain.Code, at the program's own errors.
-/
import Derived.Test.YtakdekkieobbaaaDoorErr
import Derived.Laws.Externs
import Derived.LaidEql
namespace Go.Proofs.YtakdekkieobbaaaDoor
open Go Ev Go.Extern

/-- A type's handle. -/
def hv (t : TypeId) : Value := .pointer (some ⟨17, t, none⟩)
def rt (t : TypeId) : Value := .iface 183 (.agg #[hv t])
def rvl (t : TypeId) (a : Addr) : List Value := [hv t, .pointer (some a), .int .u64 150]

/-! ### The model's own entries -/
def EX (P : Program) (f : FuncId) (s : Array Value → Sem Value) : Prop := ∀ args w, (callFunc f args).run P w = ((s args).run P w).andThen fun v w' => .ok (.value v) w'
theorem EX.to {P : Program} {f : FuncId} {s : Array Value → Sem Value} (h : EX P f s) {args : Array Value} {w w' : World} {v : Value} (hs : (s args).run P w = .ok v w') : (callFunc f args).run P w = .ok (.value v) w' := by
  rw [h, hs]
  rfl
theorem e_valueOf : EX Tryd.prog 68 (fun args => ReflectliteValue.unpack (args.getD 0 (.tuple #[]))) := fun args w =>
  run_callFunc_extern (e := (fun args => ReflectliteValue.unpack (args.getD 0 (.tuple #[])))) Tryd.func68 (by kernel_rfl) (by kernel_rfl) (by kernel_rfl) (by kernel_rfl) args w
theorem e_type : EX Tryd.prog 69 (ReflectliteValue.methodAny (ReflectliteValue.valueError "reflectlite.Value.Type" 0) (fun t _ _ _ => ReflectliteType.toType t)) := fun args w =>
  run_callFunc_extern (e := (ReflectliteValue.methodAny (ReflectliteValue.valueError "reflectlite.Value.Type" 0) (fun t _ _ _ => ReflectliteType.toType t))) Tryd.func69 (by kernel_rfl) (by kernel_rfl) (by kernel_rfl) (by kernel_rfl) args w
theorem e_isNil : EX Tryd.prog 70 (ReflectliteValue.method (ReflectliteValue.valueError "reflectlite.Value.IsNil" 0) ReflectliteValue.isNil) := fun args w =>
  run_callFunc_extern (e := (ReflectliteValue.method (ReflectliteValue.valueError "reflectlite.Value.IsNil" 0) ReflectliteValue.isNil)) Tryd.func70 (by kernel_rfl) (by kernel_rfl) (by kernel_rfl) (by kernel_rfl) args w
theorem e_kind : EX Tryd.prog 144 (ReflectliteType.abiMethod fun t => do pure (.int .u8 (← Rtype.kind t))) := fun args w =>
  run_callFunc_extern (e := (ReflectliteType.abiMethod fun t => do pure (.int .u8 (← Rtype.kind t)))) Tryd.func144 (by kernel_rfl) (by kernel_rfl) (by kernel_rfl) (by kernel_rfl) args w
theorem e_elem : EX Tryd.prog 159 (ReflectliteType.method ReflectliteType.elem) := fun args w =>
  run_callFunc_extern (e := (ReflectliteType.method ReflectliteType.elem)) Tryd.func159 (by kernel_rfl) (by kernel_rfl) (by kernel_rfl) (by kernel_rfl) args w
theorem e_impl : EX Tryd.prog 160 (ReflectliteType.relation "Implements" ReflectliteType.implements_) := fun args w =>
  run_callFunc_extern (e := (ReflectliteType.relation "Implements" ReflectliteType.implements_)) Tryd.func160 (by kernel_rfl) (by kernel_rfl) (by kernel_rfl) (by kernel_rfl) args w
theorem e_typeOf : EX Tryd.prog 72 ReflectliteType.typeOf := fun args w =>
  run_callFunc_extern (e := ReflectliteType.typeOf) Tryd.func72 (by kernel_rfl) (by kernel_rfl) (by kernel_rfl) (by kernel_rfl) args w
theorem e_assign : EX Tryd.prog 157 (ReflectliteType.relation "AssignableTo" ReflectliteType.assignableTo) := fun args w =>
  run_callFunc_extern (e := (ReflectliteType.relation "AssignableTo" ReflectliteType.assignableTo)) Tryd.func157 (by kernel_rfl) (by kernel_rfl) (by kernel_rfl) (by kernel_rfl) args w

theorem e_comp : EX Tryd.prog 158 (ReflectliteType.method fun t => do Rtype.noPackHeld "Comparable" t; pure (.bool (← typeInfo t).comparable)) := fun args w =>
  run_callFunc_extern (e := ReflectliteType.method fun t => do Rtype.noPackHeld "Comparable" t; pure (.bool (← typeInfo t).comparable)) Tryd.func158 (by kernel_rfl) (by kernel_rfl) (by kernel_rfl) (by kernel_rfl) args w

/-! ### What they give here -/
theorem x_comp (w : World) : (callFunc 158 #[.agg #[hv 98]]).run Tryd.prog w = .ok (.value (.bool true)) w := e_comp.to (by kernel_rfl)
theorem x_valueOf (t : Addr) (w : World) : (callFunc 68 #[.iface 96 (.pointer (some t))]).run Tryd.prog w
    = .ok (.value (.agg (rvl 96 ⟨w.heap.size, 0, none⟩).toArray)) (pushBlk w 96 [.pointer (some t)]) := e_valueOf.to (by kernel_rfl)
theorem x_type (a : Addr) (w : World) : (callFunc 69 #[.agg (rvl 96 a).toArray]).run Tryd.prog w = .ok (.value (rt 96)) w := e_type.to (by kernel_rfl)
theorem x_isNil (a p : Addr) (w : World) (ha : w.cell? a = some (.pointer (some p))) : (callFunc 70 #[.agg (rvl 96 a).toArray]).run Tryd.prog w = .ok (.value (.bool false)) w := by
  refine e_isNil.to ?_
  have hp : (ReflectliteValue.parts (.agg (rvl 96 a).toArray)).run Tryd.prog w = .ok (some (96, a, 150)) w := by kernel_rfl
  rw [show ReflectliteValue.method (ReflectliteValue.valueError "reflectlite.Value.IsNil" 0) ReflectliteValue.isNil #[.agg (rvl 96 a).toArray] = (do match ← ReflectliteValue.parts (.agg (rvl 96 a).toArray) with | none => ReflectliteValue.valueError "reflectlite.Value.IsNil" 0 | some (t, a, fl) => ReflectliteValue.isNil t a fl (fl % 32)) from rfl]
  simp only [Sem.run_bind, hp, Result.andThen]
  simp [ReflectliteValue.isNil, loadVar, isAgg, underlying, Tryd.underlying96, ha, Result.andThen]
theorem x_kind1 (w : World) : (callFunc 144 #[hv 96]).run Tryd.prog w = .ok (.value (.int .u8 22)) w := e_kind.to (by kernel_rfl)
theorem x_kind2 (w : World) : (callFunc 144 #[hv 53]).run Tryd.prog w = .ok (.value (.int .u8 22)) w := e_kind.to (by kernel_rfl)
theorem x_elem (w : World) : (callFunc 159 #[.agg #[hv 96]]).run Tryd.prog w = .ok (.value (rt 53)) w := e_elem.to (by kernel_rfl)
theorem x_impl (w : World) : (callFunc 160 #[.agg #[hv 53], rt 32]).run Tryd.prog w = .ok (.value (.bool true)) w := e_impl.to (by kernel_rfl)
theorem x_typeOf (a : Addr) (w : World) : (callFunc 72 #[.iface 98 (.pointer (some a))]).run Tryd.prog w = .ok (.value (rt 98)) w := e_typeOf.to (by kernel_rfl)
theorem x_assign (w : World) : (callFunc 157 #[.agg #[hv 98], rt 53]).run Tryd.prog w = .ok (.value (.bool false)) w := e_assign.to (by kernel_rfl)

theorem m_kind (h : Value) (w : World) : (Go.method (Tryd.prog.types.size + Made.depth) 183 (.agg #[h]) "Kind").run Tryd.prog w = .ok (144, h) w := by kernel_rfl
theorem m_elem (h : Value) (w : World) : (Go.method (Tryd.prog.types.size + Made.depth) 183 (.agg #[h]) "Elem").run Tryd.prog w = .ok (159, .agg #[h]) w := by kernel_rfl
theorem m_impl (h : Value) (w : World) : (Go.method (Tryd.prog.types.size + Made.depth) 183 (.agg #[h]) "Implements").run Tryd.prog w = .ok (160, .agg #[h]) w := by kernel_rfl
theorem m_assign (h : Value) (w : World) : (Go.method (Tryd.prog.types.size + Made.depth) 183 (.agg #[h]) "AssignableTo").run Tryd.prog w = .ok (157, .agg #[h]) w := by kernel_rfl
theorem m_comp (h : Value) (w : World) : (Go.method (Tryd.prog.types.size + Made.depth) 183 (.agg #[h]) "Comparable").run Tryd.prog w = .ok (158, .agg #[h]) w := by kernel_rfl
end Go.Proofs.YtakdekkieobbaaaDoor
