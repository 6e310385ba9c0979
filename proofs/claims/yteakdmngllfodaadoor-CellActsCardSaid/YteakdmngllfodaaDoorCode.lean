
/-
  errors.As at a target of **api.Fault, errors.Is, plain.Code, at the program's own errors.
-/
import Derived.Test.YteakdmngllfodaaDoorErr
import Derived.Laws.Externs
import Derived.LaidEql
namespace Go.Proofs.YteakdmngllfodaaDoor
open Go Ev Go.Extern

/-- A type's handle. -/
def hv (t : TypeId) : Value := .pointer (some ⟨12, t, none⟩)
def rt (t : TypeId) : Value := .iface 158 (.agg #[hv t])
def rvl (t : TypeId) (a : Addr) : List Value := [hv t, .pointer (some a), .int .u64 150]

/-! ### The model's own entries -/
def EX (P : Program) (f : FuncId) (s : Array Value → Sem Value) : Prop := ∀ args w, (callFunc f args).run P w = ((s args).run P w).andThen fun v w' => .ok (.value v) w'
theorem EX.to {P : Program} {f : FuncId} {s : Array Value → Sem Value} (h : EX P f s) {args : Array Value} {w w' : World} {v : Value} (hs : (s args).run P w = .ok v w') : (callFunc f args).run P w = .ok (.value v) w' := by
  rw [h, hs]
  rfl
theorem e_valueOf : EX Tryd.prog 95 (fun args => ReflectliteValue.unpack (args.getD 0 (.tuple #[]))) := fun args w =>
  run_callFunc_extern (e := (fun args => ReflectliteValue.unpack (args.getD 0 (.tuple #[])))) Tryd.func95 (by kernel_rfl) (by kernel_rfl) (by kernel_rfl) (by kernel_rfl) args w
theorem e_type : EX Tryd.prog 96 (ReflectliteValue.methodAny (ReflectliteValue.valueError "reflectlite.Value.Type" 0) (fun t _ _ _ => ReflectliteType.toType t)) := fun args w =>
  run_callFunc_extern (e := (ReflectliteValue.methodAny (ReflectliteValue.valueError "reflectlite.Value.Type" 0) (fun t _ _ _ => ReflectliteType.toType t))) Tryd.func96 (by kernel_rfl) (by kernel_rfl) (by kernel_rfl) (by kernel_rfl) args w
theorem e_isNil : EX Tryd.prog 97 (ReflectliteValue.method (ReflectliteValue.valueError "reflectlite.Value.IsNil" 0) ReflectliteValue.isNil) := fun args w =>
  run_callFunc_extern (e := (ReflectliteValue.method (ReflectliteValue.valueError "reflectlite.Value.IsNil" 0) ReflectliteValue.isNil)) Tryd.func97 (by kernel_rfl) (by kernel_rfl) (by kernel_rfl) (by kernel_rfl) args w
theorem e_kind : EX Tryd.prog 117 (ReflectliteType.abiMethod fun t => do pure (.int .u8 (← Rtype.kind t))) := fun args w =>
  run_callFunc_extern (e := (ReflectliteType.abiMethod fun t => do pure (.int .u8 (← Rtype.kind t)))) Tryd.func117 (by kernel_rfl) (by kernel_rfl) (by kernel_rfl) (by kernel_rfl) args w
theorem e_elem : EX Tryd.prog 129 (ReflectliteType.method ReflectliteType.elem) := fun args w =>
  run_callFunc_extern (e := (ReflectliteType.method ReflectliteType.elem)) Tryd.func129 (by kernel_rfl) (by kernel_rfl) (by kernel_rfl) (by kernel_rfl) args w
theorem e_impl : EX Tryd.prog 130 (ReflectliteType.relation "Implements" ReflectliteType.implements_) := fun args w =>
  run_callFunc_extern (e := (ReflectliteType.relation "Implements" ReflectliteType.implements_)) Tryd.func130 (by kernel_rfl) (by kernel_rfl) (by kernel_rfl) (by kernel_rfl) args w
theorem e_typeOf : EX Tryd.prog 99 ReflectliteType.typeOf := fun args w =>
  run_callFunc_extern (e := ReflectliteType.typeOf) Tryd.func99 (by kernel_rfl) (by kernel_rfl) (by kernel_rfl) (by kernel_rfl) args w
theorem e_assign : EX Tryd.prog 127 (ReflectliteType.relation "AssignableTo" ReflectliteType.assignableTo) := fun args w =>
  run_callFunc_extern (e := (ReflectliteType.relation "AssignableTo" ReflectliteType.assignableTo)) Tryd.func127 (by kernel_rfl) (by kernel_rfl) (by kernel_rfl) (by kernel_rfl) args w

theorem e_comp : EX Tryd.prog 128 (ReflectliteType.method fun t => do Rtype.noPackHeld "Comparable" t; pure (.bool (← typeInfo t).comparable)) := fun args w =>
  run_callFunc_extern (e := ReflectliteType.method fun t => do Rtype.noPackHeld "Comparable" t; pure (.bool (← typeInfo t).comparable)) Tryd.func128 (by kernel_rfl) (by kernel_rfl) (by kernel_rfl) (by kernel_rfl) args w

/-! ### What they give here -/
theorem x_comp (w : World) : (callFunc 128 #[.agg #[hv 172]]).run Tryd.prog w = .ok (.value (.bool true)) w := e_comp.to (by kernel_rfl)
theorem x_valueOf (t : Addr) (w : World) : (callFunc 95 #[.iface 134 (.pointer (some t))]).run Tryd.prog w
    = .ok (.value (.agg (rvl 134 ⟨w.heap.size, 0, none⟩).toArray)) (pushBlk w 134 [.pointer (some t)]) := e_valueOf.to (by kernel_rfl)
theorem x_type (a : Addr) (w : World) : (callFunc 96 #[.agg (rvl 134 a).toArray]).run Tryd.prog w = .ok (.value (rt 134)) w := e_type.to (by kernel_rfl)
theorem x_isNil (a p : Addr) (w : World) (ha : w.cell? a = some (.pointer (some p))) : (callFunc 97 #[.agg (rvl 134 a).toArray]).run Tryd.prog w = .ok (.value (.bool false)) w := by
  refine e_isNil.to ?_
  have hp : (ReflectliteValue.parts (.agg (rvl 134 a).toArray)).run Tryd.prog w = .ok (some (134, a, 150)) w := by kernel_rfl
  rw [show ReflectliteValue.method (ReflectliteValue.valueError "reflectlite.Value.IsNil" 0) ReflectliteValue.isNil #[.agg (rvl 134 a).toArray] = (do match ← ReflectliteValue.parts (.agg (rvl 134 a).toArray) with | none => ReflectliteValue.valueError "reflectlite.Value.IsNil" 0 | some (t, a, fl) => ReflectliteValue.isNil t a fl (fl % 32)) from rfl]
  simp only [Sem.run_bind, hp, Result.andThen]
  simp [ReflectliteValue.isNil, loadVar, isAgg, underlying, Tryd.underlying134, ha, Result.andThen]
theorem x_kind1 (w : World) : (callFunc 117 #[hv 134]).run Tryd.prog w = .ok (.value (.int .u8 22)) w := e_kind.to (by kernel_rfl)
theorem x_kind2 (w : World) : (callFunc 117 #[hv 132]).run Tryd.prog w = .ok (.value (.int .u8 22)) w := e_kind.to (by kernel_rfl)
theorem x_elem (w : World) : (callFunc 129 #[.agg #[hv 134]]).run Tryd.prog w = .ok (.value (rt 132)) w := e_elem.to (by kernel_rfl)
theorem x_impl (w : World) : (callFunc 130 #[.agg #[hv 132], rt 26]).run Tryd.prog w = .ok (.value (.bool true)) w := e_impl.to (by kernel_rfl)
theorem x_typeOf (a : Addr) (w : World) : (callFunc 99 #[.iface 172 (.pointer (some a))]).run Tryd.prog w = .ok (.value (rt 172)) w := e_typeOf.to (by kernel_rfl)
theorem x_assign (w : World) : (callFunc 127 #[.agg #[hv 172], rt 132]).run Tryd.prog w = .ok (.value (.bool false)) w := e_assign.to (by kernel_rfl)

theorem m_kind (h : Value) (w : World) : (Go.method (Tryd.prog.types.size + Made.depth) 158 (.agg #[h]) "Kind").run Tryd.prog w = .ok (117, h) w := by kernel_rfl
theorem m_elem (h : Value) (w : World) : (Go.method (Tryd.prog.types.size + Made.depth) 158 (.agg #[h]) "Elem").run Tryd.prog w = .ok (129, .agg #[h]) w := by kernel_rfl
theorem m_impl (h : Value) (w : World) : (Go.method (Tryd.prog.types.size + Made.depth) 158 (.agg #[h]) "Implements").run Tryd.prog w = .ok (130, .agg #[h]) w := by kernel_rfl
theorem m_assign (h : Value) (w : World) : (Go.method (Tryd.prog.types.size + Made.depth) 158 (.agg #[h]) "AssignableTo").run Tryd.prog w = .ok (127, .agg #[h]) w := by kernel_rfl
theorem m_comp (h : Value) (w : World) : (Go.method (Tryd.prog.types.size + Made.depth) 158 (.agg #[h]) "Comparable").run Tryd.prog w = .ok (128, .agg #[h]) w := by kernel_rfl
end Go.Proofs.YteakdmngllfodaaDoor
