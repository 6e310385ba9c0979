/-
  Texts of this claim, joined: Code, IfP, As, Fault, PoolZQ, PoolZR, Number, Sum, RefNum, Byt, RefRead, RefReadB, RefReadC, RefReadD, RefReadE, PoolZS.
-/
import Derived.Test.YtgcbcagaibecbaaGreatDoorSideReadsH
import Derived.Laws.Externs
import Derived.LaidEql
import Derived.Stop.Asserts
import Derived.Conc.Events
set_option linter.unusedSectionVars false
set_option linter.unusedSimpArgs false
set_option linter.unusedVariables false

namespace Go.Proofs.YtgcbcagaibecbaaGreatDoor
set_option maxRecDepth 20000
open Go Ev Go.Extern
variable [Go.Proofs.YtgcbcagaibecbaaGreatDoor.Gap.Leaps]

def hv (t : TypeId) : Value := .pointer (some ⟨21, t, none⟩)
def rt (t : TypeId) : Value := .iface 113 (.agg #[hv t])
def rvl (t : TypeId) (a : Addr) : List Value := [hv t, .pointer (some a), .int .u64 150]

def EX (P : Program) (f : FuncId) (s : Array Value → Sem Value) : Prop := ∀ args w, (callFunc f args).run P w = ((s args).run P w).andThen fun v w' => .ok (.value v) w'
theorem EX.to {P : Program} {f : FuncId} {s : Array Value → Sem Value} (h : EX P f s) {args : Array Value} {w w' : World} {v : Value} (hs : (s args).run P w = .ok v w') : (callFunc f args).run P w = .ok (.value v) w' := by
  rw [h, hs]
  rfl
theorem e_valueOf : EX Tryz.prog 28 (fun args => ReflectliteValue.unpack (args.getD 0 (.tuple #[]))) := fun args w =>
  run_callFunc_extern (e := (fun args => ReflectliteValue.unpack (args.getD 0 (.tuple #[])))) Tryz.func28 (by kernel_rfl) (by kernel_rfl) (by kernel_rfl) (by kernel_rfl) args w
theorem e_type : EX Tryz.prog 29 (ReflectliteValue.methodAny (ReflectliteValue.valueError "reflectlite.Value.Type" 0) (fun t _ _ _ => ReflectliteType.toType t)) := fun args w =>
  run_callFunc_extern (e := (ReflectliteValue.methodAny (ReflectliteValue.valueError "reflectlite.Value.Type" 0) (fun t _ _ _ => ReflectliteType.toType t))) Tryz.func29 (by kernel_rfl) (by kernel_rfl) (by kernel_rfl) (by kernel_rfl) args w
theorem e_isNil : EX Tryz.prog 30 (ReflectliteValue.method (ReflectliteValue.valueError "reflectlite.Value.IsNil" 0) ReflectliteValue.isNil) := fun args w =>
  run_callFunc_extern (e := (ReflectliteValue.method (ReflectliteValue.valueError "reflectlite.Value.IsNil" 0) ReflectliteValue.isNil)) Tryz.func30 (by kernel_rfl) (by kernel_rfl) (by kernel_rfl) (by kernel_rfl) args w
theorem e_kind : EX Tryz.prog 139 (ReflectliteType.abiMethod fun t => do pure (.int .u8 (← Rtype.kind t))) := fun args w =>
  run_callFunc_extern (e := (ReflectliteType.abiMethod fun t => do pure (.int .u8 (← Rtype.kind t)))) Tryz.func139 (by kernel_rfl) (by kernel_rfl) (by kernel_rfl) (by kernel_rfl) args w
theorem e_elem : EX Tryz.prog 150 (ReflectliteType.method ReflectliteType.elem) := fun args w =>
  run_callFunc_extern (e := (ReflectliteType.method ReflectliteType.elem)) Tryz.func150 (by kernel_rfl) (by kernel_rfl) (by kernel_rfl) (by kernel_rfl) args w
theorem e_impl : EX Tryz.prog 151 (ReflectliteType.relation "Implements" ReflectliteType.implements_) := fun args w =>
  run_callFunc_extern (e := (ReflectliteType.relation "Implements" ReflectliteType.implements_)) Tryz.func151 (by kernel_rfl) (by kernel_rfl) (by kernel_rfl) (by kernel_rfl) args w
theorem e_typeOf : EX Tryz.prog 56 ReflectliteType.typeOf := fun args w =>
  run_callFunc_extern (e := ReflectliteType.typeOf) Tryz.func56 (by kernel_rfl) (by kernel_rfl) (by kernel_rfl) (by kernel_rfl) args w
theorem e_assign : EX Tryz.prog 148 (ReflectliteType.relation "AssignableTo" ReflectliteType.assignableTo) := fun args w =>
  run_callFunc_extern (e := (ReflectliteType.relation "AssignableTo" ReflectliteType.assignableTo)) Tryz.func148 (by kernel_rfl) (by kernel_rfl) (by kernel_rfl) (by kernel_rfl) args w

theorem e_comp : EX Tryz.prog 149 (ReflectliteType.method fun t => do Rtype.noPackHeld "Comparable" t; pure (.bool (← typeInfo t).comparable)) := fun args w =>
  run_callFunc_extern (e := ReflectliteType.method fun t => do Rtype.noPackHeld "Comparable" t; pure (.bool (← typeInfo t).comparable)) Tryz.func149 (by kernel_rfl) (by kernel_rfl) (by kernel_rfl) (by kernel_rfl) args w

theorem x_comp (w : World) : (callFunc 149 #[.agg #[hv 189]]).run Tryz.prog w = .ok (.value (.bool true)) w := e_comp.to (by kernel_rfl)
theorem x_valueOf (t : Addr) (w : World) : (callFunc 28 #[.iface 49 (.pointer (some t))]).run Tryz.prog w
    = .ok (.value (.agg (rvl 49 ⟨w.heap.size, 0, none⟩).toArray)) (pushBlk w 49 [.pointer (some t)]) := e_valueOf.to (by kernel_rfl)
theorem x_type (a : Addr) (w : World) : (callFunc 29 #[.agg (rvl 49 a).toArray]).run Tryz.prog w = .ok (.value (rt 49)) w := e_type.to (by kernel_rfl)
theorem x_isNil (a p : Addr) (w : World) (ha : w.cell? a = some (.pointer (some p))) : (callFunc 30 #[.agg (rvl 49 a).toArray]).run Tryz.prog w = .ok (.value (.bool false)) w := by
  refine e_isNil.to ?_
  have hp : (ReflectliteValue.parts (.agg (rvl 49 a).toArray)).run Tryz.prog w = .ok (some (49, a, 150)) w := by kernel_rfl
  rw [show ReflectliteValue.method (ReflectliteValue.valueError "reflectlite.Value.IsNil" 0) ReflectliteValue.isNil #[.agg (rvl 49 a).toArray] = (do match ← ReflectliteValue.parts (.agg (rvl 49 a).toArray) with | none => ReflectliteValue.valueError "reflectlite.Value.IsNil" 0 | some (t, a, fl) => ReflectliteValue.isNil t a fl (fl % 32)) from rfl]
  simp only [Sem.run_bind, hp, Result.andThen]
  simp [ReflectliteValue.isNil, loadVar, isAgg, underlying, Tryz.underlying49, ha, Result.andThen]
theorem x_kind1 (w : World) : (callFunc 139 #[hv 49]).run Tryz.prog w = .ok (.value (.int .u8 22)) w := e_kind.to (by kernel_rfl)
theorem x_kind2 (w : World) : (callFunc 139 #[hv 47]).run Tryz.prog w = .ok (.value (.int .u8 22)) w := e_kind.to (by kernel_rfl)
theorem x_elem (w : World) : (callFunc 150 #[.agg #[hv 49]]).run Tryz.prog w = .ok (.value (rt 47)) w := e_elem.to (by kernel_rfl)
theorem x_impl (w : World) : (callFunc 151 #[.agg #[hv 47], rt 26]).run Tryz.prog w = .ok (.value (.bool true)) w := e_impl.to (by kernel_rfl)
theorem x_typeOf (a : Addr) (w : World) : (callFunc 56 #[.iface 189 (.pointer (some a))]).run Tryz.prog w = .ok (.value (rt 189)) w := e_typeOf.to (by kernel_rfl)
theorem x_assign (w : World) : (callFunc 148 #[.agg #[hv 189], rt 47]).run Tryz.prog w = .ok (.value (.bool false)) w := e_assign.to (by kernel_rfl)

theorem m_kind (h : Value) (w : World) : (Go.method (Tryz.prog.types.size + Made.depth) 113 (.agg #[h]) "Kind").run Tryz.prog w = .ok (139, h) w := by kernel_rfl
theorem m_elem (h : Value) (w : World) : (Go.method (Tryz.prog.types.size + Made.depth) 113 (.agg #[h]) "Elem").run Tryz.prog w = .ok (150, .agg #[h]) w := by kernel_rfl
theorem m_impl (h : Value) (w : World) : (Go.method (Tryz.prog.types.size + Made.depth) 113 (.agg #[h]) "Implements").run Tryz.prog w = .ok (151, .agg #[h]) w := by kernel_rfl
theorem m_assign (h : Value) (w : World) : (Go.method (Tryz.prog.types.size + Made.depth) 113 (.agg #[h]) "AssignableTo").run Tryz.prog w = .ok (148, .agg #[h]) w := by kernel_rfl
theorem m_comp (h : Value) (w : World) : (Go.method (Tryz.prog.types.size + Made.depth) 113 (.agg #[h]) "Comparable").run Tryz.prog w = .ok (149, .agg #[h]) w := by kernel_rfl

theorem p_comp : Gap.Plain Tryz.prog (callFunc 149 #[.agg #[hv 189]]) := plain_extern Tryz.func149 (by kernel_rfl) (by kernel_rfl) (by kernel_rfl) (e := (ReflectliteType.method fun t => do Rtype.noPackHeld "Comparable" t; pure (.bool (← typeInfo t).comparable))) (by kernel_rfl) _ (of_eq_true (by kernel_rfl))
theorem p_type (a : Addr) : Gap.Plain Tryz.prog (callFunc 29 #[.agg (rvl 49 a).toArray]) := plain_extern Tryz.func29 (by kernel_rfl) (by kernel_rfl) (by kernel_rfl) (e := (ReflectliteValue.methodAny (ReflectliteValue.valueError "reflectlite.Value.Type" 0) (fun t _ _ _ => ReflectliteType.toType t))) (by kernel_rfl) _ (of_eq_true (by kernel_rfl))
theorem p_kind1 : Gap.Plain Tryz.prog (callFunc 139 #[hv 49]) := plain_extern Tryz.func139 (by kernel_rfl) (by kernel_rfl) (by kernel_rfl) (e := (ReflectliteType.abiMethod fun t => do pure (.int .u8 (← Rtype.kind t)))) (by kernel_rfl) _ (of_eq_true (by kernel_rfl))
theorem p_kind2 : Gap.Plain Tryz.prog (callFunc 139 #[hv 47]) := plain_extern Tryz.func139 (by kernel_rfl) (by kernel_rfl) (by kernel_rfl) (e := (ReflectliteType.abiMethod fun t => do pure (.int .u8 (← Rtype.kind t)))) (by kernel_rfl) _ (of_eq_true (by kernel_rfl))
theorem p_elem : Gap.Plain Tryz.prog (callFunc 150 #[.agg #[hv 49]]) := plain_extern Tryz.func150 (by kernel_rfl) (by kernel_rfl) (by kernel_rfl) (e := (ReflectliteType.method ReflectliteType.elem)) (by kernel_rfl) _ (of_eq_true (by kernel_rfl))
theorem p_impl : Gap.Plain Tryz.prog (callFunc 151 #[.agg #[hv 47], rt 26]) := plain_extern Tryz.func151 (by kernel_rfl) (by kernel_rfl) (by kernel_rfl) (e := (ReflectliteType.relation "Implements" ReflectliteType.implements_)) (by kernel_rfl) _ (of_eq_true (by kernel_rfl))
theorem p_typeOf (a : Addr) : Gap.Plain Tryz.prog (callFunc 56 #[.iface 189 (.pointer (some a))]) := plain_extern Tryz.func56 (by kernel_rfl) (by kernel_rfl) (by kernel_rfl) (e := ReflectliteType.typeOf) (by kernel_rfl) _ (of_eq_true (by kernel_rfl))
theorem p_assign : Gap.Plain Tryz.prog (callFunc 148 #[.agg #[hv 189], rt 47]) := plain_extern Tryz.func148 (by kernel_rfl) (by kernel_rfl) (by kernel_rfl) (e := (ReflectliteType.relation "AssignableTo" ReflectliteType.assignableTo)) (by kernel_rfl) _ (of_eq_true (by kernel_rfl))
theorem p_valueOf (t : Addr) : Gap.Plain Tryz.prog (callFunc 28 #[.iface 49 (.pointer (some t))]) := plain_extern Tryz.func28 (by kernel_rfl) (by kernel_rfl) (by kernel_rfl) (e := (fun args => ReflectliteValue.unpack (args.getD 0 (.tuple #[])))) (by kernel_rfl) _ (show Gap.Plain Tryz.prog (do ReflectliteValue.mk 49 (← newVar 49 (.pointer (some t))) 0) from Gap.plain_bind (Gap.plain_newVar _ _) fun a => of_eq_true (by kernel_rfl))
theorem p_isNil (a : Addr) : Gap.Plain Tryz.prog (callFunc 30 #[.agg (rvl 49 a).toArray]) := plain_extern Tryz.func30 (by kernel_rfl) (by kernel_rfl) (by kernel_rfl) (e := (ReflectliteValue.method (ReflectliteValue.valueError "reflectlite.Value.IsNil" 0) ReflectliteValue.isNil)) (by kernel_rfl) _ (by
  have e : Gap.Plain Tryz.prog ((ReflectliteValue.method (ReflectliteValue.valueError "reflectlite.Value.IsNil" 0) ReflectliteValue.isNil) #[.agg (rvl 49 a).toArray]) = Gap.Plain Tryz.prog (do match ← load a with | .chan none | .nilFunc | .nilIface | .map none | .pointer none | .slice none _ _ => pure (.bool true) | _ => pure (.bool false) : Sem Value) := by kernel_rfl
  rw [e]
  exact Gap.plain_bind (Gap.plain_load a) fun v => by split <;> trivial)
theorem q_method {t : TypeId} {v : Value} {n : String} {r : FuncId × Value} (hp : Gap.Plain Tryz.prog (Go.method (Tryz.prog.types.size + Made.depth) t v n)) (h : ∀ w, (Go.method (Tryz.prog.types.size + Made.depth) t v n).run Tryz.prog w = .ok r w) : ∀ w, Gap.Quiet Tryz.prog (Go.method (Tryz.prog.types.size + Made.depth) t v n) w r w :=
  fun w => .of hp (h w) rfl rfl
theorem pm_kind (h : Value) : Gap.Plain Tryz.prog (Go.method (Tryz.prog.types.size + Made.depth) 113 (.agg #[h]) "Kind") := of_eq_true (by kernel_rfl)
theorem pm_elem (h : Value) : Gap.Plain Tryz.prog (Go.method (Tryz.prog.types.size + Made.depth) 113 (.agg #[h]) "Elem") := of_eq_true (by kernel_rfl)
theorem pm_impl (h : Value) : Gap.Plain Tryz.prog (Go.method (Tryz.prog.types.size + Made.depth) 113 (.agg #[h]) "Implements") := of_eq_true (by kernel_rfl)
theorem pm_assign (h : Value) : Gap.Plain Tryz.prog (Go.method (Tryz.prog.types.size + Made.depth) 113 (.agg #[h]) "AssignableTo") := of_eq_true (by kernel_rfl)
theorem pm_comp (h : Value) : Gap.Plain Tryz.prog (Go.method (Tryz.prog.types.size + Made.depth) 113 (.agg #[h]) "Comparable") := of_eq_true (by kernel_rfl)
end Go.Proofs.YtgcbcagaibecbaaGreatDoor

namespace Go.Proofs.YtgcbcagaibecbaaGreatDoor
set_option maxRecDepth 20000
open Go Ev Gap
variable [Go.Proofs.YtgcbcagaibecbaaGreatDoor.Gap.Leaps]

section
variable {P : Program} {ti tp te : TypeId} {ms : Array (String × TypeId)} {i j : TypeInfo} {a b : Addr} {w : World}
theorem plain_infoOf {t : TypeId} {i : TypeInfo} {β : Type} {f : TypeInfo → Sem β} (h : P.info? t = some i) (hf : Plain P (f i)) : Plain P (typeInfo t >>= f) := by
  unfold typeInfo
  show Plain P ((match P.info? t with | some i => pure i | none => stuck "no such type") >>= f)
  rw [h]
  exact hf
theorem ptrSame_quiet (hi : P.underlying ti = some (.interface ms)) (hp : P.underlying tp = some (.pointer te)) (hinfo : P.info? tp = some i) (hcomp : i.comparable = true) (hte : P.info? te = some j) :
    Quiet P (Go.binOp .eql ti (.iface tp (.pointer (some a))) (.iface tp (.pointer (some a)))) w (.bool true) w := by
  refine .of (plain_eq ?_) (run_eql_iface_ptr_same w a hi hp hinfo hcomp hte) rfl rfl
  unfold Op.equalIn
  refine plain_under_of hi ?_
  dsimp only
  rw [if_neg (by simp)]
  refine plain_infoOf hinfo ?_
  rw [if_neg (by simp [hcomp])]
  unfold Op.equalIn
  refine plain_under_of hp ?_
  dsimp only
  refine plain_size_of (by rw [hte]; rfl) ?_
  have hs : sameAddr a a = (pure true : Sem Bool) := by
    unfold sameAddr
    simp
  split
  · rw [hs]; trivial
  · simp only [BEq.rfl, if_true]; trivial
theorem lag_flat {O Z : Nat → Prop} {W : World} {x : Nat} {c : Array Value} {t : TypeId} (hl : Lag O Z w W) (h : w.heap[x]? = some (.cells c t (0, 0))) : ∃ c, W.heap[x]? = some (.cells c t (0, 0)) := by
  by_cases hO : O x
  · obtain ⟨o, h1, h2, _⟩ := hl.own x hO
    rw [h] at h1
    cases h1
    exact ⟨_, h2⟩
  · rcases hl.rest x _ hO h with ⟨t', f', he⟩ | ⟨_, c', t', f', _, he⟩
    · cases he
      exact (hl.flat x t hO h).2
    · exfalso
      unfold glass at he
      injection he with _ _ he
      have h3 := congrArg Prod.snd he
      simp at h3
theorem ptrOther_quiet {ca cb : Array Value} {ta tb : TypeId} (hi : P.underlying ti = some (.interface ms)) (hp : P.underlying tp = some (.pointer te)) (hinfo : P.info? tp = some i) (hcomp : i.comparable = true) (hte : P.info? te = some j) (hsz : j.size ≠ 0)
    (hne : a ≠ b) (ha : w.heap[a.block]? = some (.cells ca ta (0, 0))) (hb : w.heap[b.block]? = some (.cells cb tb (0, 0))) :
    Quiet P (Go.binOp .eql ti (.iface tp (.pointer (some a))) (.iface tp (.pointer (some b)))) w (.bool false) w := by
  intro O Z W hl
  obtain ⟨c1, h1⟩ := lag_flat hl ha
  obtain ⟨c2, h2⟩ := lag_flat hl hb
  refine ⟨W, ⟨run_eql_iface_ptr_other W hi hp hinfo hcomp hte hsz hne h1 h2, rfl, rfl, rfl, Nat.le_refl _, fun _ _ _ => rfl, fun ev hev => ?_⟩, by rw [grow_self]; exact hl, rfl⟩
  exfalso
  have key : ∀ d, (Op.equalIn (d + 2) ti (.iface tp (.pointer (some a))) (.iface tp (.pointer (some b)))).events P W #[] = #[] := fun d => by
    by_cases hbl : a.block = b.block
    · simp [Op.equalIn, run_underlying hi, run_underlying hp, typeInfo, hinfo, hcomp, sizeOf, hte, hsz, sameAddr, hbl, hne]
    · simp [Op.equalIn, run_underlying hi, run_underlying hp, typeInfo, hinfo, hcomp, sizeOf, hte, hsz, sameAddr, hbl, World.frozen?, h1, h2, noView, viewAt, World.shape?, mayBeOne, stringish]
  have hrun := run_equalIn_iface_ptr_other (P := P) W 9998 hi hp hinfo hcomp hte hsz hne h1 h2
  have e : (Go.binOp .eql ti (.iface tp (.pointer (some a))) (.iface tp (.pointer (some b)))) = (Op.equalIn (9998 + 2) ti (.iface tp (.pointer (some a))) (.iface tp (.pointer (some b))) >>= fun r => (pure (.bool r) : Sem Value)) := rfl
  rw [e, Sem.events_bind, hrun, key] at hev
  simp at hev
theorem types_quiet {t u : TypeId} {x y : Value} (hi : P.underlying ti = some (.interface ms)) (hne : t ≠ u) : Quiet P (Go.binOp .eql ti (.iface t x) (.iface u y)) w (.bool false) w := by
  refine .of (plain_eq ?_) (run_eql_iface_types _ _ _ _ hi hne w) rfl rfl
  unfold Op.equalIn
  refine plain_under_of hi ?_
  dsimp only
  rw [if_pos hne]
  trivial
end
end Go.Proofs.YtgcbcagaibecbaaGreatDoor

namespace Go.Proofs.YtgcbcagaibecbaaGreatDoor
set_option maxRecDepth 20000
open Go Ev Go.Extern
variable [Go.Proofs.YtgcbcagaibecbaaGreatDoor.Gap.Leaps]

def Handle (w : World) : Prop := w.cell? ⟨3, 0, none⟩ = some (rt 26)
theorem Handle.ext {w w' : World} (h : Handle w) (hx : Ext No w w') : Handle w' := hx.cell h fun h => h

theorem Ev.St.pushed {w0 w : World} {S : Nat → Prop} {H : List Ent} (h : St w0 S w H) (t : TypeId) (cs : List Value) : St w0 S (pushBlk w t cs) (H ++ [Ev.blk w.heap.size t cs]) := by
  refine h.made (Ext.push _ _ _ _) (blk_local _ _ _) (show (w.heap.push _)[w.heap.size]? = _ by rw [Array.getElem?_push, if_pos rfl]) ?_
  intro b hb
  obtain rfl : b = w.heap.size := by simpa [Ev.blk] using hb
  simp [pushBlk]

theorem ta_as (a : Addr) (w : World) : (Instr.typeAssert (.iface 189 (.pointer (some a))) 26 118 true).run Tryz.prog w = .ok (.tuple #[.nilIface, .bool false]) w := run_typeAssert_lacksB Tryz.underlying118 (by kernel_rfl) (by kernel_rfl) _ _ w
theorem ta_un (a : Addr) (w : World) : (Instr.typeAssert (.iface 189 (.pointer (some a))) 26 121 true).run Tryz.prog w = .ok (.tuple #[.nilIface, .bool false]) w := run_typeAssert_lacksB Tryz.underlying121 (by kernel_rfl) (by kernel_rfl) _ _ w
theorem ta_uns (a : Addr) (w : World) : (Instr.typeAssert (.iface 189 (.pointer (some a))) 26 123 true).run Tryz.prog w = .ok (.tuple #[.nilIface, .bool false]) w := run_typeAssert_lacksB Tryz.underlying123 (by kernel_rfl) (by kernel_rfl) _ _ w
theorem ta_is (a : Addr) (w : World) : (Instr.typeAssert (.iface 189 (.pointer (some a))) 26 144 true).run Tryz.prog w = .ok (.tuple #[.nilIface, .bool false]) w := run_typeAssert_lacksB Tryz.underlying144 (by kernel_rfl) (by kernel_rfl) _ _ w

theorem as_miss (e p q : Addr) (w : World) : CallC Tryz.prog 31 #[.iface 189 (.pointer (some e)), .iface 49 (.pointer (some p)), .agg (rvl 49 q).toArray, rt 47] w fun v w' => v = .bool false ∧ Ext No w w' := by
  refine fn_intro tabOk Tryz.func31 (by kernel_rfl) rfl Tryz.ntmps31 (Nat.le_of_ble_eq_true rfl) ?_
  have hS := St.start w No
  (conv => whnf)
  refine hS.new (fun b w' hb hS => ?_)
  (conv => whnf)
  refine loopR tabOk (fun σ w' n => σ = [(3, rt 47), (0, .iface 189 (.pointer (some e)))] ∧ Ext No w w')
    (σ' := [(3, rt 47), (0, .iface 189 (.pointer (some e)))]) (n := 0) ⟨rfl, rfl, trivial⟩ ⟨rfl, hS.ext⟩ ?_
  clear hS
  rintro _ w1 n ⟨rfl, hx⟩
  (conv => whnf)
  refine CallC.extern (p_typeOf e) (x_typeOf e w1) rfl rfl ?_
  (conv => whnf)
  refine ⟨_, _, q_method (pm_assign _) (m_assign _), CallC.extern p_assign (x_assign w1) rfl rfl ?_⟩
  (conv => whnf)
  refine .quiet (Gap.plain_typeAssert _ _ _ _) (ta_as e w1) rfl rfl ?_
  (conv => whnf)
  refine .quiet (Gap.plain_typeAssert _ _ _ _) (ta_un e w1) rfl rfl ?_
  (conv => whnf)
  refine .quiet (Gap.plain_typeAssert _ _ _ _) (ta_uns e w1) rfl rfl ?_
  repeat' ((conv => whnf); first | refine RetC.mk ?_ | refine NzC.mk (by decide) ?_ | refine RngC.mk (by omega) (by omega) ?_ | refine IdxC.mk (by omega) (by omega) ?_ | refine brD (fun _ => ?_) (fun _ => ?_) | refine brND (fun _ => ?_) (fun _ => ?_) | refine brN (fun _ => ?_) (fun _ => ?_) | refine brI (fun _ => ?_) (fun _ => ?_))
  exact ⟨rfl, hx⟩

theorem errorsAs_miss (e p : Addr) (w : World) (hh : Handle w) : CallC Tryz.prog 14 #[.iface 189 (.pointer (some e)), .iface 49 (.pointer (some p))] w fun v w' => v = .bool false ∧ Ext No w w' := by
  refine fn_intro tabOk Tryz.func14 (by kernel_rfl) rfl Tryz.ntmps14 (Nat.le_of_ble_eq_true rfl) ?_
  have hS := St.start w No
  (conv => whnf)
  refine CallC.externL (p_valueOf p) fun gn gd => ⟨_, _, x_valueOf p (Gap.wgap w gn gd), ?_⟩
  replace hS := hS.gap gn gd
  generalize Gap.wgap w gn gd = w9 at hS ⊢
  replace hS := hS.pushed 49 [.pointer (some p)]
  have hb := (hS.blk 0 rfl).cell 0
  have hbl := (hS.blk 0 rfl).lt
  generalize pushBlk w9 49 [.pointer (some p)] = w1 at hS hb hbl ⊢
  generalize w9.heap.size = b1 at hS hb hbl ⊢
  (conv => whnf)
  first | refine ZeroC.mk ⟨.agg #[.pointer none, .pointer none, .int .u64 0], by kernel_rfl, ?_⟩ | skip
  (conv => whnf)
  refine hS.new (fun b w2 hb2 hS => ?_)
  (conv => whnf)
  refine hS.st 1 rfl (Nat.le_of_ble_eq_true rfl) rfl (fun w3 hS => ?_)
  (conv => whnf)
  refine hS.la 1 rfl (l := rvl 49 ⟨b1, 0, none⟩) rfl rfl ?_
  (conv => whnf)
  refine CallC.extern (p_type _) (x_type _ w3) rfl rfl ?_
  (conv => whnf)
  refine ⟨_, _, q_method (pm_kind _) (m_kind _), CallC.extern p_kind1 (x_kind1 w3) rfl rfl ?_⟩
  (conv => whnf)
  refine PureC.of (fun w => rfl) ?_
  (conv => whnf)
  refine hS.la 1 rfl (l := rvl 49 ⟨b1, 0, none⟩) rfl rfl ?_
  (conv => whnf)
  refine CallC.extern (p_isNil _) (x_isNil _ p w3 ((hS.blk 0 rfl).cell 0)) rfl rfl ?_
  (conv => whnf)
  refine ⟨_, _, q_method (pm_elem _) (m_elem _), CallC.extern p_elem (x_elem w3) rfl rfl ?_⟩
  (conv => whnf)
  refine ⟨_, _, q_method (pm_kind _) (m_kind _), CallC.extern p_kind2 (x_kind2 w3) rfl rfl ?_⟩
  (conv => whnf)
  refine PureC.of (fun w => rfl) ?_
  (conv => whnf)
  refine hS.ldr hh id ?_
  (conv => whnf)
  refine ⟨_, _, q_method (pm_impl _) (m_impl _), CallC.extern p_impl (x_impl w3) rfl rfl ?_⟩
  (conv => whnf)
  refine hS.la 1 rfl (l := rvl 49 ⟨b1, 0, none⟩) rfl rfl ?_
  (conv => whnf)
  refine (as_miss e p _ w3).mono ?_
  rintro v w' ⟨rfl, hx⟩
  repeat' ((conv => whnf); first | refine RetC.mk ?_ | refine NzC.mk (by decide) ?_ | refine RngC.mk (by omega) (by omega) ?_ | refine IdxC.mk (by omega) (by omega) ?_ | refine brD (fun _ => ?_) (fun _ => ?_) | refine brND (fun _ => ?_) (fun _ => ?_) | refine brN (fun _ => ?_) (fun _ => ?_) | refine brI (fun _ => ?_) (fun _ => ?_))
  exact ⟨rfl, (hS.no hx).ext⟩

theorem is_eq {E : Nat → Addr} {n : Nat} {ks : List Nat} (j k : Nat) (w : World) (hE : Errs w E n ks) (hj : ks.contains j = true) (hk : ks.contains k = true) :
    CallC Tryz.prog 59 #[.iface 189 (.pointer (some (E j))), .iface 189 (.pointer (some (E k))), .bool true] w fun v w' => v = .bool (Nat.beq j k) ∧ Ext No w w' := by
  refine fn_intro tabOk Tryz.func59 (by kernel_rfl) rfl Tryz.ntmps59 (Nat.le_of_ble_eq_true rfl) ?_
  have hS := St.start w No
  (conv => whnf)
  refine loopR tabOk (fun σ w' n => σ = [(2, .bool true), (1, .iface 189 (.pointer (some (E k)))), (0, .iface 189 (.pointer (some (E j))))] ∧ w = w')
    (σ' := [(2, .bool true), (1, .iface 189 (.pointer (some (E k)))), (0, .iface 189 (.pointer (some (E j))))]) (n := 0) ⟨rfl, rfl, rfl, trivial⟩ ⟨rfl, rfl⟩ ?_
  clear hS
  rintro _ w1 n ⟨rfl, rfl⟩
  (conv => whnf)
  obtain ⟨i1, hi1, hcmp⟩ := Option.map_eq_some_iff.1 (show (Tryz.prog.info? 189).map (·.comparable) = some true by kernel_rfl)
  obtain ⟨i2, hi2, hsz⟩ := Option.map_eq_some_iff.1 (show (Tryz.prog.info? 191).map (·.size) = some 1 by kernel_rfl)
  by_cases h : j = k
  · subst h
    refine ⟨_, ptrSame_quiet Tryz.underlying26 Tryz.underlying189 hi1 hcmp hi2, ?_⟩
    repeat' ((conv => whnf); first | refine RetC.mk ?_ | refine NzC.mk (by decide) ?_ | refine RngC.mk (by omega) (by omega) ?_ | refine IdxC.mk (by omega) (by omega) ?_ | refine brD (fun _ => ?_) (fun _ => ?_) | refine brND (fun _ => ?_) (fun _ => ?_) | refine brN (fun _ => ?_) (fun _ => ?_) | refine brI (fun _ => ?_) (fun _ => ?_))
    exact ⟨by rw [Nat.beq_refl], Ext.refl _ _⟩
  · obtain ⟨⟨c1, t1, h1⟩, _⟩ := hE.row j hj
    obtain ⟨⟨c2, t2, h2⟩, _⟩ := hE.row k hk
    refine ⟨_, ptrOther_quiet Tryz.underlying26 Tryz.underlying189 hi1 hcmp hi2 (by rw [hsz]; decide) (hE.inj j k hj hk h) h1 h2, ?_⟩
    (conv => whnf)
    refine .quiet (Gap.plain_typeAssert _ _ _ _) (ta_is _ w) rfl rfl ?_
    (conv => whnf)
    refine .quiet (Gap.plain_typeAssert _ _ _ _) (ta_un _ w) rfl rfl ?_
    (conv => whnf)
    refine .quiet (Gap.plain_typeAssert _ _ _ _) (ta_uns _ w) rfl rfl ?_
    repeat' ((conv => whnf); first | refine RetC.mk ?_ | refine NzC.mk (by decide) ?_ | refine RngC.mk (by omega) (by omega) ?_ | refine IdxC.mk (by omega) (by omega) ?_ | refine brD (fun _ => ?_) (fun _ => ?_) | refine brND (fun _ => ?_) (fun _ => ?_) | refine brN (fun _ => ?_) (fun _ => ?_) | refine brI (fun _ => ?_) (fun _ => ?_))
    exact ⟨by rw [show Nat.beq j k = false by cases hb : Nat.beq j k with | false => rfl | true => exact absurd (Nat.eq_of_beq_eq_true hb) h], Ext.refl _ _⟩

theorem errorsIs_eq {E : Nat → Addr} {n : Nat} {ks : List Nat} (j k : Nat) (w : World) (hE : Errs w E n ks) (hj : ks.contains j = true) (hk : ks.contains k = true) :
    CallC Tryz.prog 33 #[.iface 189 (.pointer (some (E j))), .iface 189 (.pointer (some (E k)))] w fun v w' => v = .bool (Nat.beq j k) ∧ Ext No w w' := by
  refine fn_intro tabOk Tryz.func33 (by kernel_rfl) rfl Tryz.ntmps33 (Nat.le_of_ble_eq_true rfl) ?_
  (conv => whnf)
  refine CallC.extern (p_typeOf (E k)) (x_typeOf (E k) w) rfl rfl ?_
  (conv => whnf)
  refine ⟨_, _, q_method (pm_comp _) (m_comp _), CallC.extern p_comp (x_comp w) rfl rfl ?_⟩
  (conv => whnf)
  refine (is_eq j k w hE hj hk).mono ?_
  rintro v w' ⟨rfl, hx⟩
  repeat' ((conv => whnf); first | refine RetC.mk ?_ | refine NzC.mk (by decide) ?_ | refine RngC.mk (by omega) (by omega) ?_ | refine IdxC.mk (by omega) (by omega) ?_ | refine brD (fun _ => ?_) (fun _ => ?_) | refine brND (fun _ => ?_) (fun _ => ?_) | refine brN (fun _ => ?_) (fun _ => ?_) | refine brI (fun _ => ?_) (fun _ => ?_))
  exact ⟨rfl, hx⟩

def allErrs : List Nat := [1, 2, 3, 4, 5, 6, 7, 8, 9, 10, 11]

theorem elem_at (E : Nat → Addr) : ∀ j : Nat, j < 11 → ([1, 2, 3, 4, 5, 6, 7, 8, 9, 10, 11].map fun k => Value.iface 189 (.pointer (some (E k))))[0 + ((j : Int)).toNat * 1]? = some (.iface 189 (.pointer (some (E (j + 1))))) := by
  intro j hj
  match j, hj with
  | 0, _ | 1, _ | 2, _ | 3, _ | 4, _ | 5, _ | 6, _ | 7, _ | 8, _ | 9, _ | 10, _ => rfl
  | n + 11, h => omega

theorem code_ok {E : Nat → Addr} {n : Nat} (k : Nat) (hk : k < 12) (w : World) (hE : Errs w E n allErrs) (hh : Handle w) :
    CallC Tryz.prog 20 #[errV E k] w fun v w' => v = .tuple #[.int .i64 k, .int .i64 (-1)] ∧ Ext No w w' := by
  cases k with
  | zero =>
    refine fn_intro tabOk Tryz.func20 (by kernel_rfl) rfl Tryz.ntmps20 (Nat.le_of_ble_eq_true rfl) ?_
    repeat' ((conv => whnf); first | refine RetC.mk ?_ | refine NzC.mk (by decide) ?_ | refine RngC.mk (by omega) (by omega) ?_ | refine IdxC.mk (by omega) (by omega) ?_ | refine brD (fun _ => ?_) (fun _ => ?_) | refine brND (fun _ => ?_) (fun _ => ?_) | refine brN (fun _ => ?_) (fun _ => ?_) | refine brI (fun _ => ?_) (fun _ => ?_))
    exact ⟨rfl, Ext.refl _ _⟩
  | succ k =>
    have hin : ∀ j, j < 11 → allErrs.contains (j + 1) = true := by
      intro j hj
      match j, hj with
      | 0, _ | 1, _ | 2, _ | 3, _ | 4, _ | 5, _ | 6, _ | 7, _ | 8, _ | 9, _ | 10, _ => rfl
      | n + 11, h => omega
    refine fn_intro tabOk Tryz.func20 (by kernel_rfl) rfl Tryz.ntmps20 (Nat.le_of_ble_eq_true rfl) ?_
    have hS := St.start w No
    (conv => whnf)
    refine hS.new (fun b w2 hb2 hS => ?_)
    (conv => whnf)
    refine (errorsAs_miss (E (k + 1)) ⟨b, 0, none⟩ w2 (hh.ext hS.ext)).mono ?_
    rintro v w' ⟨rfl, hx⟩
    replace hS := hS.no hx
    repeat' ((conv => whnf); first | refine hS.ldr (hE.at_ 1 rfl) id ?_ | refine hS.ldr (hE.at_ 2 rfl) id ?_ | refine hS.ldr (hE.at_ 3 rfl) id ?_ | refine hS.ldr (hE.at_ 4 rfl) id ?_ | refine hS.ldr (hE.at_ 5 rfl) id ?_ | refine hS.ldr (hE.at_ 6 rfl) id ?_ | refine hS.ldr (hE.at_ 7 rfl) id ?_ | refine hS.ldr (hE.at_ 8 rfl) id ?_ | refine hS.ldr (hE.at_ 9 rfl) id ?_ | refine hS.ldr (hE.at_ 10 rfl) id ?_ | refine hS.ldr (hE.at_ 11 rfl) id ?_)
    refine hS.lit (cs := allErrs.map fun k => Value.iface 189 (.pointer (some (E k)))) Tryz.underlying43 (sz := 1) (by kernel_rfl) (z := .nilIface) (by kernel_rfl) rfl rfl (by kernel_rfl) (fun bs w4 hbs hS => ?_)
    (conv => whnf)
    refine loopR tabOk (fun σ w' n => ∃ j : Nat, σ = [(29, .int .i64 j), (28, .int .i64 11), (27, .slice (some ⟨bs, 0, none⟩) 11 11), (3, .int .i64 (-1)), (0, .iface 189 (.pointer (some (E (k + 1)))))] ∧ n = 11 - j ∧ j ≤ k ∧ St w No w' [blk b 47 [.pointer none], blk bs 26 (allErrs.map fun k => Value.iface 189 (.pointer (some (E k))))])
      (σ' := [(29, .int .i64 ((0 : Nat) : Int)), (28, .int .i64 11), (27, .slice (some ⟨bs, 0, none⟩) 11 11), (3, .int .i64 (-1)), (0, .iface 189 (.pointer (some (E (k + 1)))))]) (n := 11) ⟨rfl, rfl, rfl, rfl, rfl, trivial⟩ ⟨0, rfl, rfl, Nat.zero_le _, hS⟩ ?_
    clear hS hx
    rintro _ w1 n ⟨j, rfl, rfl, hj, hS⟩
    (conv => whnf)
    refine brD (fun h3 => ?_) (fun h3 => ?_)
    · (conv => whnf)
      refine IdxC.mk (by omega) (by omega) ?_
      (conv => whnf)
      refine hS.ld 1 rfl (elem_at E j (by omega)) ?_
      (conv => whnf)
      refine (errorsIs_eq (k + 1) (j + 1) w1 (hE.ext hS.ext (fun _ h => h.elim)) (hin k (by omega)) (hin j (by omega))).mono ?_
      rintro v w' ⟨rfl, hx⟩
      replace hS := hS.no hx
      (conv => whnf)
      refine brI (fun h4 => ?_) (fun h4 => ?_)
      · have : k + 1 = j + 1 := Nat.eq_of_beq_eq_true h4
        obtain rfl : k = j := by omega
        (conv => whnf)
        refine RngC.mk (by omega) (by omega) ?_
        (conv => whnf)
        exact ⟨⟨rfl, hS.ext⟩⟩
      · have : k + 1 ≠ j + 1 := Nat.ne_of_beq_eq_false h4
        (conv => whnf)
        refine RngC.mk (by omega) (by omega) ?_
        (conv => whnf)
        exact LoopE.mk ⟨_, [(29, .int .i64 ((j + 1 : Nat) : Int)), (28, _), (27, _), (3, _), (0, _)], by omega, ⟨rfl, rfl, rfl, rfl, rfl, trivial⟩, ⟨j + 1, rfl, rfl, by omega, hS⟩⟩
    · exfalso; omega

theorem handle_of {L : List (String × DataW Unit)} {W : World} (hl : laidMetH Tryz.prog L W) (hm : ("errors.errorType", .iface "internal/reflectlite.rtype" (.agg [.ptr (.lit (.string [101, 114, 114, 111, 114]))])) ∈ L) : Handle W := by
  have h2 := (laidMetH_iff.1 hl).2 _ (List.mem_filter.2 ⟨hm, rfl⟩)
  obtain ⟨name, u, ty, e1, e2, e3, e4, e5⟩ := h2
  have en : name = [101, 114, 114, 111, 114] := (Option.some.inj e1).symm
  subst en
  obtain rfl := Option.some.inj ((show (Tryz.prog.cutTypes.find? (·.1 == "internal/reflectlite.rtype")).map (·.2) = some 113 by kernel_rfl).symm.trans e2)
  have hm : ty ∈ (List.range Tryz.prog.types.size).filter fun t => Tryz.prog.rowNamed t [101, 114, 114, 111, 114] := List.mem_filter.2 ⟨List.mem_range.2 e3, e4⟩
  rw [show ((List.range Tryz.prog.types.size).filter fun t => Tryz.prog.rowNamed t [101, 114, 114, 111, 114]) = [26] by kernel_rfl] at hm
  obtain rfl := List.mem_singleton.1 hm
  have hh : typeHandle Tryz.prog 26 = hv 26 := by kernel_rfl
  rw [hh] at e5
  have := World.var?_cell (show Tryz.prog.globalNamed "errors.errorType" = some 3 by kernel_rfl) e5 0
  simpa [Handle, rt] using this
end Go.Proofs.YtgcbcagaibecbaaGreatDoor

namespace Go.Proofs.YtgcbcagaibecbaaGreatDoor
set_option maxRecDepth 20000
open Go Ev Go.Extern
variable [Go.Proofs.YtgcbcagaibecbaaGreatDoor.Gap.Leaps]

def rvf (t : TypeId) (a : Addr) : List Value := [hv t, .pointer (some a), .int .u64 406]
theorem e_elemV : EX Tryz.prog 57 (ReflectliteValue.method (ReflectliteValue.valueError "reflectlite.Value.Elem" 0) ReflectliteValue.elem) := fun args w =>
  run_callFunc_extern (e := (ReflectliteValue.method (ReflectliteValue.valueError "reflectlite.Value.Elem" 0) ReflectliteValue.elem)) Tryz.func57 (by kernel_rfl) (by kernel_rfl) (by kernel_rfl) (by kernel_rfl) args w
theorem e_set : EX Tryz.prog 58 ReflectliteValue.set := fun args w =>
  run_callFunc_extern (e := ReflectliteValue.set) Tryz.func58 (by kernel_rfl) (by kernel_rfl) (by kernel_rfl) (by kernel_rfl) args w

theorem x_typeOfF (v : Value) (w : World) : (callFunc 56 #[.iface 47 v]).run Tryz.prog w = .ok (.value (rt 47)) w := e_typeOf.to (by kernel_rfl)
theorem x_assignF (w : World) : (callFunc 148 #[.agg #[hv 47], rt 47]).run Tryz.prog w = .ok (.value (.bool true)) w := e_assign.to (by kernel_rfl)
theorem x_valueOfF (e : Addr) (w : World) : (callFunc 28 #[.iface 47 (.pointer (some e))]).run Tryz.prog w
    = .ok (.value (.agg (rvl 47 ⟨w.heap.size, 0, none⟩).toArray)) (pushBlk w 47 [.pointer (some e)]) := e_valueOf.to (by kernel_rfl)
theorem x_elemV (a p : Addr) (w : World) (ha : w.cell? a = some (.pointer (some p))) : (callFunc 57 #[.agg (rvl 49 a).toArray]).run Tryz.prog w = .ok (.value (.agg (rvf 47 p).toArray)) w := by
  refine e_elemV.to ?_
  have hp : (ReflectliteValue.parts (.agg (rvl 49 a).toArray)).run Tryz.prog w = .ok (some (49, a, 150)) w := by kernel_rfl
  have he : ∀ w, (Rtype.elem? 49).run Tryz.prog w = .ok (some 47) w := fun w => by kernel_rfl
  have hm : ∀ w, (ReflectliteValue.mk 47 p ReflectliteValue.flagAddr).run Tryz.prog w = .ok (.agg (rvf 47 p).toArray) w := fun w => by kernel_rfl
  rw [show ReflectliteValue.method (ReflectliteValue.valueError "reflectlite.Value.Elem" 0) ReflectliteValue.elem #[.agg (rvl 49 a).toArray] = (do match ← ReflectliteValue.parts (.agg (rvl 49 a).toArray) with | none => ReflectliteValue.valueError "reflectlite.Value.Elem" 0 | some (t, a, fl) => ReflectliteValue.elem t a fl (fl % 32)) from rfl]
  simp only [Sem.run_bind, hp, Result.andThen]
  simp [ReflectliteValue.elem, loadVar, isAgg, underlying, Tryz.underlying49, ha, Result.andThen, he, hm]
theorem set_eq (v x : Value) : ReflectliteValue.set #[v, x] = (do
    let (some (dst, a, fl), some (src, b, _)) := (← ReflectliteValue.parts v, ← ReflectliteValue.parts x)
      | unsupported (.noEntry "extern/(internal/reflectlite.Value).Set.zeroValue")
    if fl / ReflectliteValue.flagAddr % 2 == 0 then unsupported (.noEntry "extern/(internal/reflectlite.Value).Set.unaddressable")
    let val ← loadVar src b
    if ← Rtype.directlyAssignable dst src then storeVar dst a val
    else if ← Rtype.implements dst src then
      if (← Rtype.kind src) == 20 then
        match val with
        | .nilIface => unsupported (.noEntry "extern/reflectlite: a nil value of one interface type handed on as a value of another")
        | _ => storeVar dst a val
      else storeVar dst a (.iface src val)
    else panicString ("reflectlite.Set: value of type " ++ (← Rtype.spelt src) ++ " is not assignable to type " ++ (← Rtype.spelt dst))
    pure (.tuple #[])) := rfl
theorem x_set (ta b e : Addr) (old : Value) (w : World) (hb : w.cell? b = some (.pointer (some e))) (ht : w.cell? ta = some old) (hf : w.frozen? ta = false) :
    (callFunc 58 #[.agg (rvf 47 ta).toArray, .agg (rvl 47 b).toArray]).run Tryz.prog w = .ok (.value (.tuple #[])) (w.setCell ta (.pointer (some e))) := by
  refine e_set.to ?_
  have h1 : (ReflectliteValue.parts (.agg (rvf 47 ta).toArray)).run Tryz.prog w = .ok (some (47, ta, 406)) w := by kernel_rfl
  have h2 : (ReflectliteValue.parts (.agg (rvl 47 b).toArray)).run Tryz.prog w = .ok (some (47, b, 150)) w := by kernel_rfl
  have hd : ∀ w, (Rtype.directlyAssignable 47 47).run Tryz.prog w = .ok true w := fun w => by kernel_rfl
  rw [set_eq]
  simp only [Sem.run_bind, h1, h2, Result.andThen]
  simp [ReflectliteValue.flagAddr, loadVar, isAgg, underlying, Tryz.underlying47, hb, Result.andThen, hd, storeVar, Value.cells, storeCells, Addr.add]
  rw [run_store Tryz.prog w ta _ _ (by rfl)]
  simp [ht, hf]

theorem p_typeOfF (v : Value) : Gap.Plain Tryz.prog (callFunc 56 #[.iface 47 v]) := plain_extern Tryz.func56 (by kernel_rfl) (by kernel_rfl) (by kernel_rfl) (e := ReflectliteType.typeOf) (by kernel_rfl) _ (of_eq_true (by kernel_rfl))
theorem p_assignF : Gap.Plain Tryz.prog (callFunc 148 #[.agg #[hv 47], rt 47]) := plain_extern Tryz.func148 (by kernel_rfl) (by kernel_rfl) (by kernel_rfl) (e := (ReflectliteType.relation "AssignableTo" ReflectliteType.assignableTo)) (by kernel_rfl) _ (of_eq_true (by kernel_rfl))
theorem p_valueOfF (e : Addr) : Gap.Plain Tryz.prog (callFunc 28 #[.iface 47 (.pointer (some e))]) := plain_extern Tryz.func28 (by kernel_rfl) (by kernel_rfl) (by kernel_rfl) (e := (fun args => ReflectliteValue.unpack (args.getD 0 (.tuple #[])))) (by kernel_rfl) _ (show Gap.Plain Tryz.prog (do ReflectliteValue.mk 47 (← newVar 47 (.pointer (some e))) 0) from Gap.plain_bind (Gap.plain_newVar _ _) fun a => of_eq_true (by kernel_rfl))
theorem p_elemQ (a p : Addr) (w : World) (ha : w.cell? a = some (.pointer (some p))) : Gap.Quiet Tryz.prog (callFunc 57 #[.agg (rvl 49 a).toArray]) w (.value (.agg (rvf 47 p).toArray)) w := by
  refine .of (plain_extern Tryz.func57 (by kernel_rfl) (by kernel_rfl) (by kernel_rfl) (e := (ReflectliteValue.method (ReflectliteValue.valueError "reflectlite.Value.Elem" 0) ReflectliteValue.elem)) (by kernel_rfl) _ ?_) (x_elemV a p w ha) rfl rfl
  have e : Gap.Plain Tryz.prog ((ReflectliteValue.method (ReflectliteValue.valueError "reflectlite.Value.Elem" 0) ReflectliteValue.elem) #[.agg (rvl 49 a).toArray]) = Gap.Plain Tryz.prog (do match ← load a with | .pointer none => pure ReflectliteValue.zeroV | .pointer (some p) => ReflectliteValue.mk 47 p ReflectliteValue.flagAddr | _ => ReflectliteValue.valueError "reflectlite.Value.Elem" 22 : Sem Value) := by kernel_rfl
  rw [e]
  refine Gap.plain_bind (Gap.plain_load a) fun v => ?_
  split
  · trivial
  · exact of_eq_true (by kernel_rfl)
  · unfold ReflectliteValue.valueError
    exact Gap.plain_bind (of_eq_true (by kernel_rfl)) fun t => Gap.plain_bind (Gap.plain_elemOf t) fun u => Gap.plain_bind (Gap.plain_newVar _ _) fun e => trivial
theorem p_set (ta b : Addr) : Gap.Plain Tryz.prog (callFunc 58 #[.agg (rvf 47 ta).toArray, .agg (rvl 47 b).toArray]) := by
  refine plain_extern Tryz.func58 (by kernel_rfl) (by kernel_rfl) (by kernel_rfl) (e := ReflectliteValue.set) (by kernel_rfl) _ ?_
  have e : Gap.Plain Tryz.prog (ReflectliteValue.set #[.agg (rvf 47 ta).toArray, .agg (rvl 47 b).toArray]) = Gap.Plain Tryz.prog (do let val ← load b; storeVar 47 ta val; pure (.tuple #[]) : Sem Value) := by kernel_rfl
  rw [e]
  exact Gap.plain_bind (Gap.plain_load b) fun v => Gap.plain_bind (Gap.plain_storeVar _ _ _) fun _ => trivial

section
variable {w : World} {b : Nat}
theorem as_hit (e : Addr) (bq : Nat) (old : Value) (hq : w.cell? ⟨bq, 0, none⟩ = some (.pointer (some ⟨b, 0, none⟩))) (hne : ¬ bq = b) (hb : Blk w b 47 [old]) : CallC Tryz.prog 31 #[.iface 47 (.pointer (some e)), .iface 49 (.pointer (some ⟨b, 0, none⟩)), .agg (rvl 49 ⟨bq, 0, none⟩).toArray, rt 47] w fun v w' => v = .bool true ∧ Ext (· = b) w w' ∧ Blk w' b 47 [.pointer (some e)] := by
  refine fn_intro tabOk Tryz.func31 (by kernel_rfl) rfl Tryz.ntmps31 (Nat.le_of_ble_eq_true rfl) ?_
  have hS := (St.start w (· = b)).add (blk_local b _ _) hb (by simp [blk]; exact hb.lt) (by simp)
  (conv => whnf)
  refine hS.new (fun b6 w2 hb6 hS => ?_)
  (conv => whnf)
  refine loopR tabOk (fun σ w' n => σ = [(6, .pointer (some ⟨b6, 0, none⟩)), (3, rt 47), (0, .iface 47 (.pointer (some e)))] ∧ St w (· = b) w' [blk b 47 [old], blk b6 81 (rvl 49 ⟨bq, 0, none⟩)] ∧ w'.cell? ⟨bq, 0, none⟩ = some (.pointer (some ⟨b, 0, none⟩)))
    (σ' := [(6, .pointer (some ⟨b6, 0, none⟩)), (3, rt 47), (0, .iface 47 (.pointer (some e)))]) (n := 0) ⟨rfl, rfl, rfl, trivial⟩ ⟨rfl, hS, ?_⟩ ?_
  · exact hS.ext.cell hq hne
  clear hS
  rintro _ w1 n ⟨rfl, hS, hq1⟩
  (conv => whnf)
  refine CallC.extern (p_typeOfF _) (x_typeOfF _ w1) rfl rfl ?_
  (conv => whnf)
  refine ⟨_, _, q_method (pm_assign _) (m_assign _), CallC.extern p_assignF (x_assignF w1) rfl rfl ?_⟩
  (conv => whnf)
  refine hS.laX 1 rfl rfl ?_
  (conv => whnf)
  refine ⟨.inr (.inl ⟨_, _, p_elemQ ⟨bq, 0, none⟩ ⟨b, 0, none⟩ w1 hq1, ?_⟩)⟩
  (conv => whnf)
  refine CallC.externL (p_valueOfF e) fun gn gd => ⟨_, _, x_valueOfF e (Gap.wgap w1 gn gd), ?_⟩
  replace hS := hS.gap gn gd
  generalize Gap.wgap w1 gn gd = w9 at hS ⊢
  replace hS := hS.pushed 47 [.pointer (some e)]
  have hv := (hS.blk 2 rfl).cell 0
  have hbb := hS.blk 0 rfl
  generalize pushBlk w9 47 [.pointer (some e)] = w3 at hS hv hbb ⊢
  generalize w9.heap.size = b3 at hS hv ⊢
  (conv => whnf)
  refine CallC.extern (p_set _ _) (x_set ⟨b, 0, none⟩ ⟨b3, 0, none⟩ e old w3 hv (by rw [hbb.cell]; rfl) (hbb.frozen 0)) (by simp [World.setCell]) rfl ?_
  rw [setCell_eq hbb]
  replace hS := hS.upd (e' := blk b 47 [.pointer (some e)]) 0 rfl (T := (· = b)) (Ext.set (S := (· = b)) (b := b) rfl 47 _) (fun c hc => by simp [Ev.blk, hc]) (blk_local _ _ _) (setBlk_blk hbb.lt) (fun c hc => .inl hc)
  repeat' ((conv => whnf); first | refine RetC.mk ?_ | refine NzC.mk (by decide) ?_ | refine RngC.mk (by omega) (by omega) ?_ | refine IdxC.mk (by omega) (by omega) ?_ | refine brD (fun _ => ?_) (fun _ => ?_) | refine brND (fun _ => ?_) (fun _ => ?_) | refine brN (fun _ => ?_) (fun _ => ?_) | refine brI (fun _ => ?_) (fun _ => ?_))
  exact ⟨rfl, hS.ext, hS.blk 0 rfl⟩
theorem errorsAs_hit (e : Addr) (old : Value) (hh : Handle w) (hb : Blk w b 47 [old]) (hne : ¬ b = 3) : CallC Tryz.prog 14 #[.iface 47 (.pointer (some e)), .iface 49 (.pointer (some ⟨b, 0, none⟩))] w fun v w' => v = .bool true ∧ Ext (· = b) w w' ∧ Blk w' b 47 [.pointer (some e)] := by
  have p : Addr := ⟨b, 0, none⟩
  refine fn_intro tabOk Tryz.func14 (by kernel_rfl) rfl Tryz.ntmps14 (Nat.le_of_ble_eq_true rfl) ?_
  have hS := (St.start w (· = b)).add (blk_local b _ _) hb (by simp [blk]; exact hb.lt) (by simp)
  (conv => whnf)
  refine CallC.externL (p_valueOf ⟨b, 0, none⟩) fun gn gd => ⟨_, _, x_valueOf ⟨b, 0, none⟩ (Gap.wgap w gn gd), ?_⟩
  replace hS := hS.gap gn gd
  generalize Gap.wgap w gn gd = w9 at hS ⊢
  replace hS := hS.pushed 49 [.pointer (some ⟨b, 0, none⟩)]
  generalize pushBlk w9 49 [.pointer (some ⟨b, 0, none⟩)] = w1 at hS ⊢
  generalize w9.heap.size = b1 at hS ⊢
  (conv => whnf)
  first | refine ZeroC.mk ⟨.agg #[.pointer none, .pointer none, .int .u64 0], by kernel_rfl, ?_⟩ | skip
  (conv => whnf)
  refine hS.new (fun b2 w2 hb2 hS => ?_)
  (conv => whnf)
  refine hS.st 2 rfl (Nat.le_of_ble_eq_true rfl) rfl (fun w3 hS => ?_)
  (conv => whnf)
  refine hS.la 2 rfl (l := rvl 49 ⟨b1, 0, none⟩) rfl rfl ?_
  (conv => whnf)
  refine CallC.extern (p_type _) (x_type _ w3) rfl rfl ?_
  (conv => whnf)
  refine ⟨_, _, q_method (pm_kind _) (m_kind _), CallC.extern p_kind1 (x_kind1 w3) rfl rfl ?_⟩
  (conv => whnf)
  refine PureC.of (fun w => rfl) ?_
  (conv => whnf)
  refine hS.la 2 rfl (l := rvl 49 ⟨b1, 0, none⟩) rfl rfl ?_
  (conv => whnf)
  refine CallC.extern (p_isNil _) (x_isNil _ ⟨b, 0, none⟩ w3 ((hS.blk 1 rfl).cell 0)) rfl rfl ?_
  (conv => whnf)
  refine ⟨_, _, q_method (pm_elem _) (m_elem _), CallC.extern p_elem (x_elem w3) rfl rfl ?_⟩
  (conv => whnf)
  refine ⟨_, _, q_method (pm_kind _) (m_kind _), CallC.extern p_kind2 (x_kind2 w3) rfl rfl ?_⟩
  (conv => whnf)
  refine PureC.of (fun w => rfl) ?_
  (conv => whnf)
  refine hS.ldr hh (fun h => hne h.symm) ?_
  (conv => whnf)
  refine ⟨_, _, q_method (pm_impl _) (m_impl _), CallC.extern p_impl (x_impl w3) rfl rfl ?_⟩
  (conv => whnf)
  refine hS.la 2 rfl (l := rvl 49 ⟨b1, 0, none⟩) rfl rfl ?_
  (conv => whnf)
  refine (as_hit e b1 old ((hS.blk 1 rfl).cell 0) (fun h => hS.ne 1 0 rfl rfl (by decide) h) (hS.blk 0 rfl)).mono ?_
  rintro v w' ⟨rfl, hx, hB⟩
  replace hS := hS.upd 0 rfl hx (fun c hc => by subst hc; exact List.mem_singleton.2 rfl) (blk_local _ _ _) hB (fun c hc => .inl hc)
  repeat' ((conv => whnf); first | refine RetC.mk ?_ | refine NzC.mk (by decide) ?_ | refine RngC.mk (by omega) (by omega) ?_ | refine IdxC.mk (by omega) (by omega) ?_ | refine brD (fun _ => ?_) (fun _ => ?_) | refine brND (fun _ => ?_) (fun _ => ?_) | refine brN (fun _ => ?_) (fun _ => ?_) | refine brI (fun _ => ?_) (fun _ => ?_))
  exact ⟨rfl, hS.ext, hS.blk 0 rfl⟩

theorem taF_un (v : Value) (w : World) : (Instr.typeAssert (.iface 47 v) 26 121 true).run Tryz.prog w = .ok (.tuple #[.iface 47 v, .bool true]) w := run_typeAssert_hasB Tryz.underlying121 (by kernel_rfl) _ _ w
theorem taF_is (v : Value) (w : World) : (Instr.typeAssert (.iface 47 v) 26 144 true).run Tryz.prog w = .ok (.tuple #[.nilIface, .bool false]) w := run_typeAssert_lacksB Tryz.underlying144 (by kernel_rfl) (by kernel_rfl) _ _ w
theorem mF_un (v : Value) (w : World) : (Go.method (Tryz.prog.types.size + Made.depth) 47 v "Unwrap").run Tryz.prog w = .ok (143, v) w := by kernel_rfl
theorem unwrap_ok {f : Nat} {a e : Value} (hf : Blk w f 51 [a, e]) : CallC Tryz.prog 143 #[.pointer (some ⟨f, 0, none⟩)] w fun v w' => v = e ∧ w = w' := by
  refine fn_intro tabOk Tryz.func143 (by kernel_rfl) rfl Tryz.ntmps143 (Nat.le_of_ble_eq_true rfl) ?_
  (conv => whnf)
  refine ldc (v := e) (by rw [hf.cell]; rfl) ?_
  repeat' ((conv => whnf); first | refine RetC.mk ?_ | refine NzC.mk (by decide) ?_ | refine RngC.mk (by omega) (by omega) ?_ | refine IdxC.mk (by omega) (by omega) ?_ | refine brD (fun _ => ?_) (fun _ => ?_) | refine brND (fun _ => ?_) (fun _ => ?_) | refine brN (fun _ => ?_) (fun _ => ?_) | refine brI (fun _ => ?_) (fun _ => ?_))
  exact ⟨rfl, rfl⟩
theorem isF_eq {E : Nat → Addr} {n f : Nat} {a : Value} {ks : List Nat} (j k : Nat) (w : World) (hE : Errs w E n ks) (hj : ks.contains j = true) (hk : ks.contains k = true) (hf : Blk w f 51 [a, .iface 189 (.pointer (some (E j)))]) :
    CallC Tryz.prog 59 #[.iface 47 (.pointer (some ⟨f, 0, none⟩)), .iface 189 (.pointer (some (E k))), .bool true] w fun v w' => v = .bool (Nat.beq j k) ∧ Ext No w w' := by
  refine fn_intro tabOk Tryz.func59 (by kernel_rfl) rfl Tryz.ntmps59 (Nat.le_of_ble_eq_true rfl) ?_
  have hS := St.start w No
  (conv => whnf)
  refine loopR tabOk (fun σ w' n => (σ = [(2, .bool true), (1, .iface 189 (.pointer (some (E k)))), (0, .iface 47 (.pointer (some ⟨f, 0, none⟩)))] ∧ n = 1 ∨ σ = [(2, .bool true), (1, .iface 189 (.pointer (some (E k)))), (0, .iface 189 (.pointer (some (E j))))] ∧ n = 0) ∧ w = w')
    (σ' := [(2, .bool true), (1, .iface 189 (.pointer (some (E k)))), (0, .iface 47 (.pointer (some ⟨f, 0, none⟩)))]) (n := 1) ⟨rfl, rfl, rfl, trivial⟩ ⟨.inl ⟨rfl, rfl⟩, rfl⟩ ?_
  clear hS
  rintro _ w1 n ⟨⟨rfl, rfl⟩ | ⟨rfl, rfl⟩, rfl⟩
  · (conv => whnf)
    refine ⟨_, types_quiet Tryz.underlying26 (by decide), ?_⟩
    (conv => whnf)
    refine .quiet (Gap.plain_typeAssert _ _ _ _) (taF_is _ w) rfl rfl ?_
    (conv => whnf)
    refine .quiet (Gap.plain_typeAssert _ _ _ _) (taF_un _ w) rfl rfl ?_
    (conv => whnf)
    refine ⟨_, _, q_method (of_eq_true (by kernel_rfl)) (mF_un _), (unwrap_ok hf).mono ?_⟩
    rintro v w' ⟨rfl, rfl⟩
    (conv => whnf)
    refine LoopE.mk ⟨0, [(2, _), (1, _), (0, _)], by decide, ⟨rfl, rfl, rfl, trivial⟩, .inr ⟨rfl, rfl⟩, rfl⟩
  (conv => whnf)
  obtain ⟨i1, hi1, hcmp⟩ := Option.map_eq_some_iff.1 (show (Tryz.prog.info? 189).map (·.comparable) = some true by kernel_rfl)
  obtain ⟨i2, hi2, hsz⟩ := Option.map_eq_some_iff.1 (show (Tryz.prog.info? 191).map (·.size) = some 1 by kernel_rfl)
  by_cases h : j = k
  · subst h
    refine ⟨_, ptrSame_quiet Tryz.underlying26 Tryz.underlying189 hi1 hcmp hi2, ?_⟩
    repeat' ((conv => whnf); first | refine RetC.mk ?_ | refine NzC.mk (by decide) ?_ | refine RngC.mk (by omega) (by omega) ?_ | refine IdxC.mk (by omega) (by omega) ?_ | refine brD (fun _ => ?_) (fun _ => ?_) | refine brND (fun _ => ?_) (fun _ => ?_) | refine brN (fun _ => ?_) (fun _ => ?_) | refine brI (fun _ => ?_) (fun _ => ?_))
    exact ⟨by rw [Nat.beq_refl], Ext.refl _ _⟩
  · obtain ⟨⟨c1, t1, h1⟩, _⟩ := hE.row j hj
    obtain ⟨⟨c2, t2, h2⟩, _⟩ := hE.row k hk
    refine ⟨_, ptrOther_quiet Tryz.underlying26 Tryz.underlying189 hi1 hcmp hi2 (by rw [hsz]; decide) (hE.inj j k hj hk h) h1 h2, ?_⟩
    (conv => whnf)
    refine .quiet (Gap.plain_typeAssert _ _ _ _) (ta_is _ w) rfl rfl ?_
    (conv => whnf)
    refine .quiet (Gap.plain_typeAssert _ _ _ _) (ta_un _ w) rfl rfl ?_
    (conv => whnf)
    refine .quiet (Gap.plain_typeAssert _ _ _ _) (ta_uns _ w) rfl rfl ?_
    repeat' ((conv => whnf); first | refine RetC.mk ?_ | refine NzC.mk (by decide) ?_ | refine RngC.mk (by omega) (by omega) ?_ | refine IdxC.mk (by omega) (by omega) ?_ | refine brD (fun _ => ?_) (fun _ => ?_) | refine brND (fun _ => ?_) (fun _ => ?_) | refine brN (fun _ => ?_) (fun _ => ?_) | refine brI (fun _ => ?_) (fun _ => ?_))
    exact ⟨by rw [show Nat.beq j k = false by cases hb : Nat.beq j k with | false => rfl | true => exact absurd (Nat.eq_of_beq_eq_true hb) h], Ext.refl _ _⟩
theorem errorsIsF_eq {E : Nat → Addr} {n f : Nat} {a : Value} {ks : List Nat} (j k : Nat) (w : World) (hE : Errs w E n ks) (hj : ks.contains j = true) (hk : ks.contains k = true) (hf : Blk w f 51 [a, .iface 189 (.pointer (some (E j)))]) :
    CallC Tryz.prog 33 #[.iface 47 (.pointer (some ⟨f, 0, none⟩)), .iface 189 (.pointer (some (E k)))] w fun v w' => v = .bool (Nat.beq j k) ∧ Ext No w w' := by
  refine fn_intro tabOk Tryz.func33 (by kernel_rfl) rfl Tryz.ntmps33 (Nat.le_of_ble_eq_true rfl) ?_
  (conv => whnf)
  refine CallC.extern (p_typeOf (E k)) (x_typeOf (E k) w) rfl rfl ?_
  (conv => whnf)
  refine ⟨_, _, q_method (pm_comp _) (m_comp _), CallC.extern p_comp (x_comp w) rfl rfl ?_⟩
  (conv => whnf)
  refine (isF_eq j k w hE hj hk hf).mono ?_
  rintro v w' ⟨rfl, hx⟩
  repeat' ((conv => whnf); first | refine RetC.mk ?_ | refine NzC.mk (by decide) ?_ | refine RngC.mk (by omega) (by omega) ?_ | refine IdxC.mk (by omega) (by omega) ?_ | refine brD (fun _ => ?_) (fun _ => ?_) | refine brND (fun _ => ?_) (fun _ => ?_) | refine brN (fun _ => ?_) (fun _ => ?_) | refine brI (fun _ => ?_) (fun _ => ?_))
  exact ⟨rfl, hx⟩
theorem codeF_ok {E : Nat → Addr} {n f : Nat} {a : Int} (k : Nat) (hk : k < 11) (w : World) (hE : Errs w E n allErrs) (hh : Handle w) (hf : Blk w f 51 [.int .i64 a, errV E (k + 1)]) :
    CallC Tryz.prog 20 #[.iface 47 (.pointer (some ⟨f, 0, none⟩))] w fun v w' => v = .tuple #[.int .i64 ((k + 1 : Nat) : Int), .int .i64 a] ∧ Ext No w w' := by
  have hin : ∀ j, j < 11 → allErrs.contains (j + 1) = true := by
    intro j hj
    match j, hj with
    | 0, _ | 1, _ | 2, _ | 3, _ | 4, _ | 5, _ | 6, _ | 7, _ | 8, _ | 9, _ | 10, _ => rfl
    | n + 11, h => omega
  have hgl : ¬ w.heap.size ≤ 3 := by
    have := cell_lt hh
    simpa using this
  refine fn_intro tabOk Tryz.func20 (by kernel_rfl) rfl Tryz.ntmps20 (Nat.le_of_ble_eq_true rfl) ?_
  have hS := St.start w No
  (conv => whnf)
  refine hS.new (fun b w2 hb2 hS => ?_)
  (conv => whnf)
  refine (errorsAs_hit ⟨f, 0, none⟩ (.pointer none) (hh.ext hS.ext) (hS.blk 0 rfl) (fun h => hgl (by omega))).mono ?_
  rintro v w' ⟨rfl, hx, hB⟩
  replace hS := hS.upd 0 rfl hx (fun c hc => by subst hc; exact List.mem_singleton.2 rfl) (blk_local _ _ _) hB (fun c hc => .inl hc)
  (conv => whnf)
  refine hS.ld 0 rfl rfl ?_
  (conv => whnf)
  refine hS.ldr (v := .int .i64 a) (by rw [hf.cell]; rfl) id ?_
  repeat' ((conv => whnf); first | refine hS.ldr (hE.at_ 1 rfl) id ?_ | refine hS.ldr (hE.at_ 2 rfl) id ?_ | refine hS.ldr (hE.at_ 3 rfl) id ?_ | refine hS.ldr (hE.at_ 4 rfl) id ?_ | refine hS.ldr (hE.at_ 5 rfl) id ?_ | refine hS.ldr (hE.at_ 6 rfl) id ?_ | refine hS.ldr (hE.at_ 7 rfl) id ?_ | refine hS.ldr (hE.at_ 8 rfl) id ?_ | refine hS.ldr (hE.at_ 9 rfl) id ?_ | refine hS.ldr (hE.at_ 10 rfl) id ?_ | refine hS.ldr (hE.at_ 11 rfl) id ?_)
  refine hS.lit (cs := allErrs.map fun k => Value.iface 189 (.pointer (some (E k)))) Tryz.underlying43 (sz := 1) (by kernel_rfl) (z := .nilIface) (by kernel_rfl) rfl rfl (by kernel_rfl) (fun bs w4 hbs hS => ?_)
  replace hS : St w No w4 [blk bs 26 (allErrs.map fun k => Value.iface 189 (.pointer (some (E k))))] := hS.sel [1] (by decide)
  (conv => whnf)
  refine loopR tabOk (fun σ w' n => ∃ j : Nat, σ = [(29, .int .i64 j), (28, .int .i64 11), (27, .slice (some ⟨bs, 0, none⟩) 11 11), (3, .int .i64 a), (0, .iface 47 (.pointer (some ⟨f, 0, none⟩)))] ∧ n = 11 - j ∧ j ≤ k ∧ St w No w' [blk bs 26 (allErrs.map fun k => Value.iface 189 (.pointer (some (E k))))])
    (σ' := [(29, .int .i64 ((0 : Nat) : Int)), (28, .int .i64 11), (27, .slice (some ⟨bs, 0, none⟩) 11 11), (3, .int .i64 a), (0, .iface 47 (.pointer (some ⟨f, 0, none⟩)))]) (n := 11) ⟨rfl, rfl, rfl, rfl, rfl, trivial⟩ ⟨0, rfl, rfl, Nat.zero_le _, hS⟩ ?_
  clear hS hx
  rintro _ w1 n ⟨j, rfl, rfl, hj, hS⟩
  (conv => whnf)
  refine brD (fun h3 => ?_) (fun h3 => ?_)
  · (conv => whnf)
    refine IdxC.mk (by omega) (by omega) ?_
    (conv => whnf)
    refine hS.ld 0 rfl (elem_at E j (by omega)) ?_
    (conv => whnf)
    refine (errorsIsF_eq (k + 1) (j + 1) w1 (hE.ext hS.ext (fun _ h => h.elim)) (hin k (by omega)) (hin j (by omega)) (hS.ext.blk hf id)).mono ?_
    rintro v w' ⟨rfl, hx⟩
    replace hS := hS.no hx
    (conv => whnf)
    refine brI (fun h4 => ?_) (fun h4 => ?_)
    · have : k + 1 = j + 1 := Nat.eq_of_beq_eq_true h4
      obtain rfl : k = j := by omega
      (conv => whnf)
      refine RngC.mk (by omega) (by omega) ?_
      (conv => whnf)
      exact ⟨⟨rfl, hS.ext⟩⟩
    · have : k + 1 ≠ j + 1 := Nat.ne_of_beq_eq_false h4
      (conv => whnf)
      refine RngC.mk (by omega) (by omega) ?_
      (conv => whnf)
      exact LoopE.mk ⟨_, [(29, .int .i64 ((j + 1 : Nat) : Int)), (28, _), (27, _), (3, _), (0, _)], by omega, ⟨rfl, rfl, rfl, rfl, rfl, trivial⟩, ⟨j + 1, rfl, rfl, by omega, hS⟩⟩
  · exfalso; omega
theorem codeV_ok {E : Nat → Addr} {n k : Nat} {a : Int} {w0 : World} {v : Value} (h : FaultV E w0 w v k a) (hk : k < 12) (hE : Errs w E n allErrs) (hh : Handle w) :
    CallC Tryz.prog 20 #[v] w fun v w' => v = .tuple #[.int .i64 (k : Int), .int .i64 a] ∧ Ext No w w' := by
  rcases h with ⟨rfl, rfl⟩ | ⟨_, h2, f, rfl, _, hf⟩
  · exact code_ok k hk w hE hh
  · obtain ⟨j, rfl⟩ : ∃ j, k = j + 1 := ⟨k - 1, by omega⟩
    exact codeF_ok j (by omega) w hE hh hf
theorem faulted3_ok {E : Nat → Addr} {n k : Nat} {a : Int} {w0 : World} {v : Value} (h : FaultV E w0 w v k a) (h0 : k = 0 → a = -1) (hk : k < 12) (hE : Errs w E n allErrs) (hh : Handle w) :
    CallC Tryz.prog 8 #[v, .agg (encF k a).toArray] w fun v w' => v = .bool true ∧ Ext No w w' := by
  refine fn_intro tabOk Tryz.func8 (by kernel_rfl) rfl Tryz.ntmps8 (Nat.le_of_ble_eq_true rfl) ?_
  have hS := St.start w No
  (conv => whnf)
  refine hS.new (fun bf w' hbf hS => ?_)
  replace hS : St w No w' [blk bf 30 (encF k a)] := hS
  (conv => whnf)
  refine (codeV_ok (h.no hS.ext) hk (hE.ext hS.ext fun _ h => h.elim) (hh.ext hS.ext)).mono ?_
  rintro v w2 ⟨rfl, hx⟩
  replace hS := hS.no hx
  repeat' ((conv => whnf); first | refine RetC.mk ?_ | refine NzC.mk (by decide) ?_ | refine RngC.mk (by omega) (by omega) ?_ | refine IdxC.mk (by omega) (by omega) ?_ | refine hS.ld 0 rfl rfl ?_ | refine hS.laX 0 rfl rfl ?_ | refine brD (fun _ => ?_) (fun _ => ?_) | refine brND (fun _ => ?_) (fun _ => ?_) | refine brN (fun _ => ?_) (fun _ => ?_) | refine brI (fun _ => ?_) (fun _ => ?_))
  all_goals first | exact ⟨rfl, hS.ext⟩ | (exfalso; rename_i h; exact h rfl) | exact ⟨by simp, hS.ext⟩
end

def fvFoot : Value → List Nat
  | .iface t (.pointer (some ⟨f, _, _⟩)) => match Nat.beq t 47 with | true => [f] | false => []
  | _ => []
def fvE (E : Nat → Addr) (v : Value) (c : Nat) (a : Int) : Ent := ⟨fvFoot v, fun w => ∃ w0, FaultV E w0 w v c a⟩
theorem fvE_local (E : Nat → Addr) (v : Value) (c : Nat) (a : Int) : (fvE E v c a).Local := by
  rintro w w' h ⟨w0, hf⟩
  rcases hf with hf | ⟨h1, h2, f, rfl, h3, h4⟩
  · exact ⟨w0, .inl hf⟩
  · exact ⟨w0, .inr ⟨h1, h2, f, rfl, h3, (h f (by simp [fvE, fvFoot])).trans h4⟩⟩
end Go.Proofs.YtgcbcagaibecbaaGreatDoor

namespace Go.Proofs.YtgcbcagaibecbaaGreatDoor.Pool
set_option maxRecDepth 20000
open Go Go.Conc Gap Ev Go.RowKit Go.Conc.Lib
local instance : Gap.Leaps := noLeaps

def both (e f : Ent) : Ent := ⟨e.foot ++ f.foot, fun w => e.holds w ∧ f.holds w⟩
theorem both_local {e f : Ent} (h : e.Local) (k : f.Local) : (both e f).Local := fun w w' hk ⟨h1, h2⟩ =>
  ⟨h w w' (fun b hb => hk b (List.mem_append_left _ hb)) h1, k w w' (fun b hb => hk b (List.mem_append_right _ hb)) h2⟩
def ansE (E : Nat → Addr) (v err : Value) (s : List UInt8) : Ent := both (ownL 41 5 encRule v (rulesOfS s).1) (fvE E err (rulesOfS s).2.1 (rulesOfS s).2.2)
def AnsR (E : Nat → Addr) (ls : List (List UInt8)) (i : Nat) (v err : Value) (e : Ent) : Prop := ∃ s, ls[i]? = some s ∧ (∃ a c, v = .slice a (rulesOfS s).1.length c) ∧ e = ansE E v err s

section
variable {w : World} {E : Nat → Addr} {q b2 n c : Nat} {a : Option Addr} {G : List UInt8 → Prop} {ls : List (List UInt8)}
theorem reads1_how (hB : w.cell? ⟨b2, 0, none⟩ = some (.slice a n c)) (hx : Slc w 1 encT G a n ls) (hlen : ∀ s ∈ ls, s.length ≤ 100000) (hV : NumV w) (ht : Pow10 w) (hP : Protos w) (hE : ErrC w E q [1, 2]) (hn : n ≤ 100000) :
    HowAt w n 13 [.pointer (some ⟨b2, 0, none⟩)] (AnsR E ls) := by
  intro i hi w1 hs
  obtain ⟨b0, o0, s, hsk, _, rfl, _, hc⟩ := hx.at (k := i) hi
  have hcell := hs _ _ _ (hc 0 _ rfl)
  have hV1 : NumV w1 := ⟨hV.syn.elim fun e he => ⟨e, hs _ _ _ he.1, he.2⟩, hV.rng.elim fun e he => ⟨e, hs _ _ _ he.1, he.2⟩⟩
  have ht1 : Pow10 w1 := fun i hi => hs _ _ _ (ht i hi)
  have hP1 : Protos w1 := fun i v hv => hs _ _ _ (hP i v hv)
  have hE1 : ErrC w1 E q [1, 2] := ⟨fun k hk => hs _ _ _ (hE.at_ k hk), hE.lt⟩
  have hB1 := hs _ _ _ hB
  have hls := hlen s (List.mem_of_getElem? hsk)
  clear hs hc hB
  show CallC Tryz.prog 13 #[.int .i64 i, .pointer (some ⟨b2, 0, none⟩)] w1 _
  refine fn_intro tabOk Tryz.func13 (by kernel_rfl) rfl Tryz.ntmps13 (Nat.le_of_ble_eq_true rfl) ?_
  (conv => whnf)
  refine ldc hB1 ?_
  (conv => whnf)
  refine IdxC.mk (by omega) (by omega) ?_
  (conv => whnf)
  refine ldc hcell ?_
  (conv => whnf)
  refine (preads_ok s w1 hls trivial hV1 ht1 hP1 hE1).mono ?_
  rintro v w' ⟨⟨a2, c2, e, rfl, hf, ho, hfr⟩, hx⟩
  repeat' ((conv => whnf); first | refine RetC.mk ?_ | refine NzC.mk (by decide) ?_ | refine RngC.mk (by omega) (by omega) ?_ | refine IdxC.mk (by omega) (by omega) ?_ | refine brD (fun _ => ?_) (fun _ => ?_) | refine brND (fun _ => ?_) (fun _ => ?_) | refine brN (fun _ => ?_) (fun _ => ?_) | refine brI (fun _ => ?_) (fun _ => ?_))
  refine ⟨hx, a2, _, c2, e, ansE E (.slice a2 (rulesOfS s).1.length c2) e s, rfl, ?_, ⟨s, hsk, ⟨_, _, rfl⟩, rfl⟩, both_local ownL_local (fvE_local _ _ _ _), ⟨ho, w1, hf⟩, fun b hb => ?_⟩
  · generalize (rulesOfS s).2.1 = fc at hf
    rcases hf with ⟨_, rfl⟩ | ⟨_, _, f, rfl, _⟩
    · cases fc
      · exact .inl rfl
      · exact .inr ⟨_, _, rfl⟩
    · exact .inr ⟨_, _, rfl⟩
  · rcases List.mem_append.1 hb with hb | hb
    · obtain ⟨_, ⟨h6, _⟩ | ⟨g', cap', cur, h6, _, h7, _⟩⟩ := ho
      · rw [h6] at hb
        simp [ownL, own, Value.ownBlock] at hb
      · rw [h6] at hb hfr
        obtain rfl : b = g' := by simpa [ownL, own, Value.ownBlock] using hb
        exact ⟨(hfr b rfl).1, _, _, h7⟩
    · rcases hf with ⟨_, rfl⟩ | ⟨_, _, f, rfl, h3, h4⟩
      · exfalso
        generalize (rulesOfS s).2.1 = fc at hb
        cases fc <;> simp [fvE, fvFoot, errV] at hb
      · obtain rfl : b = f := by simpa [fvE, fvFoot] using hb
        exact ⟨h3, _, _, h4⟩
end
end Go.Proofs.YtgcbcagaibecbaaGreatDoor.Pool

namespace Go.Proofs.YtgcbcagaibecbaaGreatDoor.Pool
set_option maxRecDepth 20000
open Go Go.Conc Gap Ev Go.RowKit Go.Conc.Lib
local instance : Gap.Leaps := onLeaps

def rightC (k n : Int) : Nat := if k < 1 ∨ k > 16 then 3 else if n > 100 then 2 else 0
def firstF : List (List UInt8) → Nat → Nat × Int
  | [], _ => (0, -1)
  | s :: l, k => if (rulesOfS s).2.1 = 0 then firstF l (k + 1) else ((rulesOfS s).2.1, (k : Int))
theorem firstF_step {l : List (List UInt8)} {k : Nat} {s : List UInt8} (h : l[k]? = some s) : firstF (l.drop k) k = if (rulesOfS s).2.1 = 0 then firstF (l.drop (k + 1)) (k + 1) else ((rulesOfS s).2.1, (k : Int)) := by
  obtain ⟨lt, e⟩ := List.getElem?_eq_some_iff.1 h
  rw [List.drop_eq_getElem_cons lt, e]
  rfl
def readsC (ls : List (List UInt8)) (k : Int) : Nat × Int := if rightC k ls.length = 0 then firstF ls 0 else (rightC k ls.length, -1)
section
variable {w : World} {E : Nat → Addr} {q n c : Nat} {a : Option Addr} {G : List UInt8 → Prop} {ls : List (List UInt8)}
theorem right_ok (k n : Int) (w : World) (hE : ErrC w E q [2, 3]) : CallC Tryz.prog 11 #[.int .i64 k, .int .i64 n] w fun v w' => v = errV E (rightC k n) ∧ Ext No w w' := by
  have hS := St.start w No
  unfold rightC
  refine fn_intro tabOk Tryz.func11 (by kernel_rfl) rfl Tryz.ntmps11 (Nat.le_of_ble_eq_true rfl) ?_
  repeat' ((conv => whnf); first | refine RetC.mk ?_ | refine NzC.mk (by decide) ?_ | refine RngC.mk (by omega) (by omega) ?_ | refine IdxC.mk (by omega) (by omega) ?_ | refine hS.ldr (hE.at_ 2 rfl) id ?_ | refine hS.ldrF (hE.at_ 2 rfl) id id ?_ | refine hS.ldr (hE.at_ 3 rfl) id ?_ | refine hS.ldrF (hE.at_ 3 rfl) id id ?_ | refine brD (fun _ => ?_) (fun _ => ?_) | refine brND (fun _ => ?_) (fun _ => ?_) | refine brN (fun _ => ?_) (fun _ => ?_) | refine brI (fun _ => ?_) (fun _ => ?_))
  · rw [if_pos (by omega)]
    exact ⟨rfl, hS.ext⟩
  · rw [if_pos (by omega)]
    exact ⟨rfl, hS.ext⟩
  · rw [if_neg (by omega), if_pos (by omega)]
    exact ⟨rfl, hS.ext⟩
  · rw [if_neg (by omega), if_neg (by omega)]
    exact ⟨rfl, hS.ext⟩
def ReadsAll (w : World) (bo n : Nat) (ls : List (List UInt8)) : Prop := ∃ xs : List OneV, Slc w 1 encO (fun _ => True) (some ⟨bo, 0, none⟩) n xs ∧ ∀ (i : Nat) (s : List UInt8), ls[i]? = some s → ∃ x a c, xs[i]? = some x ∧ x.1 = .slice a (rulesOfS s).1.length c ∧ Slc w 5 encRule (fun _ => True) a (rulesOfS s).1.length (rulesOfS s).1
theorem ReadsAll.no {w w' : World} {bo n : Nat} {ls : List (List UInt8)} (h : ReadsAll w bo n ls) (hx : Ext No w w') : ReadsAll w' bo n ls := by
  obtain ⟨xs, h1, h2⟩ := h
  exact ⟨xs, h1.no hx, fun i s hi => let ⟨x, a, c, g1, g2, g3⟩ := h2 i s hi; ⟨x, a, c, g1, g2, g3.no hx⟩⟩
theorem reads_ok (hx : Slc w 1 encT G a n ls) (hlen : ∀ s ∈ ls, s.length ≤ 100000) (hV : NumV w) (ht : Pow10 w) (hP : Protos w) (hE : Errs w E q [1, 2, 3]) (hh : Handle w) (k : Int) :
    CallC Tryz.prog 5 #[.slice a n c, .int .i64 k] w fun v w' => (∃ ov ev, v = .tuple #[ov, ev] ∧ FaultV E w w' ev (readsC ls k).1 (readsC ls k).2 ∧ ((readsC ls k).1 ≠ 0 → ov = .slice none 0 0) ∧ ((readsC ls k).1 = 0 → ∃ bo, ov = .slice (some ⟨bo, 0, none⟩) n n ∧ ReadsAll w' bo n ls)) ∧ Ext No w w' := by
  have hm := hx.max
  have hl := hx.len
  have hS := St.start w No
  unfold readsC
  rw [hl]
  refine fn_intro tabOk Tryz.func5 (by kernel_rfl) rfl Tryz.ntmps5 (Nat.le_of_ble_eq_true rfl) ?_
  (conv => whnf)
  refine hS.new (fun b2 w' hb2 hS => ?_)
  replace hS : St w No w' [blk b2 22 [.slice a n c]] := hS
  (conv => whnf)
  refine hS.ld 0 rfl rfl ?_
  (conv => whnf)
  refine (right_ok k n _ ((hE.cells.sub rfl).ext hS.ext fun _ h => h.elim)).mono ?_
  rintro v w1 ⟨rfl, hx1⟩
  replace hS := hS.no hx1
  by_cases hr : rightC k n = 0
  rotate_left
  · rw [if_neg hr]
    obtain ⟨j, hj⟩ : ∃ j, rightC k n = j + 1 := ⟨rightC k n - 1, by omega⟩
    rw [hj]
    repeat' ((conv => whnf); first | refine RetC.mk ?_ | refine NzC.mk (by decide) ?_ | refine RngC.mk (by omega) (by omega) ?_ | refine IdxC.mk (by omega) (by omega) ?_ | refine brD (fun _ => ?_) (fun _ => ?_) | refine brND (fun _ => ?_) (fun _ => ?_) | refine brN (fun _ => ?_) (fun _ => ?_) | refine brI (fun _ => ?_) (fun _ => ?_))
    exact ⟨⟨_, _, rfl, .inl ⟨rfl, rfl⟩, fun _ => rfl, fun h => by cases h⟩, hS.ext⟩
  rw [if_pos hr, hr]
  have hk : 1 ≤ k ∧ k ≤ 16 ∧ n ≤ 100 := by
    unfold rightC at hr
    split at hr
    · cases hr
    · split at hr
      · cases hr
      · omega
  (conv => whnf)
  refine hS.ld 0 rfl rfl ?_
  (conv => whnf)
  have hcell := (hS.blk 0 rfl).cell 0
  have hall := all_ok (many := n) (workers := k.toNat) (by omega) (by omega) (by omega) (reads1_how (w := w1) (q := q) (c := c) (b2 := b2) hcell (hx.no hS.ext) hlen (hV.no hS.ext) (ht.no hS.ext) (hP.no hS.ext) ((hE.cells.sub rfl).ext hS.ext fun _ h => h.elim) (by omega))
  rw [show ((k.toNat : Nat) : Int) = k by omega] at hall
  refine hall.mono ?_
  rintro v w2 ⟨bo, be, xs, ys, rfl, hxl, hyl, hS2, hans⟩
  have hx0 : Ext No w w2 := hS.ext.trans hS2.ext
  have hhan := hh.ext hx0
  have hlt : 3 < w2.heap.size := cell_lt hhan
  have hat : ∀ (i : Nat) (s : List UInt8), ls[i]? = some s → ∃ x y a c w0, xs[i]? = some x ∧ ys[i]? = some y ∧ x.1 = .slice a (rulesOfS s).1.length c ∧ Slc w2 5 encRule (fun _ => True) a (rulesOfS s).1.length (rulesOfS s).1 ∧ FaultV E w0 w2 y.1 (rulesOfS s).2.1 (rulesOfS s).2.2 := by
    intro i s hi
    have hin : i < n := by
      have := (List.getElem?_eq_some_iff.1 hi).1
      omega
    obtain ⟨x, y, e, h1, h2, _, _, ⟨s', hs', ⟨a', c', hx'⟩, rfl⟩, _, ⟨h3, w0, h4⟩, _⟩ := hans i hin
    obtain rfl := Option.some.inj (hi.symm.trans hs')
    rw [hx'] at h3
    exact ⟨x, y, a', c', w0, h1, h2, hx', ownL_slc codRule h3 fun _ _ => trivial, h4⟩
  have hout : ReadsAll w2 bo n ls := ⟨xs, ownL_slc codO (hS2.get 0 rfl) fun _ _ => trivial, fun i s hi => let ⟨x, y, a, c, w0, h1, _, h3, h4, _⟩ := hat i s hi; ⟨x, a, c, h1, h3, h4⟩⟩
  have hers : Slc w2 1 encO (fun _ => True) (some ⟨be, 0, none⟩) n ys := ownL_slc codO (hS2.get 1 rfl) fun _ _ => trivial
  clear hall hans hS2 hS hx1 hcell
  have hS := St.start w2 No
  unfold twoS
  (conv => whnf)
  refine loopR tabOk (fun σ w' q => ∃ k : Nat, σ = [(29, .int .i64 (k : Int)), (28, .int .i64 n), (27, .slice (some ⟨be, 0, none⟩) n n), (7, .slice (some ⟨bo, 0, none⟩) n n)] ∧ q = n - k ∧ k ≤ n ∧ St w2 No w' [] ∧ firstF ls 0 = firstF (ls.drop k) k)
    (σ' := [(29, .int .i64 ((0 : Nat) : Int)), (28, .int .i64 n), (27, .slice (some ⟨be, 0, none⟩) n n), (7, .slice (some ⟨bo, 0, none⟩) n n)]) (n := n) ⟨rfl, rfl, rfl, rfl, trivial⟩ ⟨0, rfl, rfl, Nat.zero_le _, hS, by simp⟩ ?_
  clear hS
  rintro _ w1 q ⟨k, rfl, rfl, hk, hS, hi⟩
  (conv => whnf)
  refine brD (fun h3 => ?_) (fun h3 => ?_)
  · obtain ⟨b0, o0, y, hyk, _, hbe, _, hc⟩ := hers.at (k := k) (by omega)
    obtain ⟨s, hsk⟩ : ∃ s, ls[k]? = some s := ⟨_, List.getElem?_eq_getElem (by omega)⟩
    obtain ⟨x, y', _, _, w0, _, hy', _, _, hfv⟩ := hat k s hsk
    obtain rfl := Option.some.inj (hyk.symm.trans hy')
    have hst := firstF_step hsk
    have hcell := hc 0 _ rfl
    injection hbe with hbe
    injection hbe with hbe hoe
    subst hbe hoe
    obtain ⟨v, hv⟩ : ∃ v, v = y.1 := ⟨_, rfl⟩
    rw [← hv] at hfv hcell
    (conv => whnf)
    refine IdxC.mk (by omega) (by omega) ?_
    (conv => whnf)
    refine hS.ldr hcell id ?_
    cases hcode : (rulesOfS s).2.1 with
    | zero =>
      rw [hcode] at hfv
      rw [if_pos hcode] at hst
      obtain rfl : v = .nilIface := by
        rcases hfv with ⟨_, h⟩ | ⟨_, h, _⟩
        · exact h
        · omega
      (conv => whnf)
      refine RngC.mk (by omega) (by omega) ?_
      (conv => whnf)
      refine LoopE.mk ⟨_, [(29, .int .i64 ((k + 1 : Nat) : Int)), (28, _), (27, _), (7, _)], ?_, ⟨rfl, rfl, rfl, rfl, trivial⟩, ⟨k + 1, rfl, rfl, by omega, hS, by rw [hi, hst]⟩⟩
      omega
    | succ j =>
      rw [hcode] at hfv
      rw [if_neg (by omega), hcode] at hst
      have e1 : firstF ls 0 = (j + 1, (k : Int)) := by rw [hi, hst]
      rw [e1]
      rcases hfv with ⟨_, rfl⟩ | ⟨_, _, f, rfl, _, hf⟩
      · (conv => whnf)
        refine hS.new (fun b11 w' hb11 hS => ?_)
        (conv => whnf)
        refine (errorsAs_miss (E (j + 1)) ⟨b11, 0, none⟩ _ (hhan.ext hS.ext)).mono ?_
        rintro v w3 ⟨rfl, hx3⟩
        replace hS := hS.no hx3
        (conv => whnf)
        refine hS.new (fun f9 w9 hf9 hS => ?_)
        have hff := hS.fresh 1 rfl
        repeat' ((conv => whnf); first | refine RetC.mk ?_ | refine NzC.mk (by decide) ?_ | refine RngC.mk (by omega) (by omega) ?_ | refine IdxC.mk (by omega) (by omega) ?_ | refine brD (fun _ => ?_) (fun _ => ?_) | refine brND (fun _ => ?_) (fun _ => ?_) | refine brN (fun _ => ?_) (fun _ => ?_) | refine brI (fun _ => ?_) (fun _ => ?_))
        refine ⟨⟨_, _, rfl, .inr ⟨by dsimp only; omega, by dsimp only; omega, f9, rfl, Nat.le_trans hx0.size hff, hS.blk 1 rfl⟩, fun _ => rfl, fun h => by cases h⟩, hx0.trans hS.ext⟩
      · (conv => whnf)
        refine hS.new (fun b11 w' hb11 hS => ?_)
        (conv => whnf)
        refine (errorsAs_hit ⟨f, 0, none⟩ (.pointer none) (hhan.ext hS.ext) (hS.blk 0 rfl) (by omega)).mono ?_
        rintro v w3 ⟨rfl, hx3, hB⟩
        replace hS := hS.upd 0 rfl hx3 (fun c hc => by subst hc; exact List.mem_singleton.2 rfl) (blk_local _ _ _) hB (fun c hc => .inl hc)
        (conv => whnf)
        refine hS.ld 0 rfl rfl ?_
        (conv => whnf)
        refine hS.ldr (show w2.cell? ⟨f, 1, none⟩ = some (errV E (j + 1)) from by rw [hf.cell]; rfl) id ?_
        (conv => whnf)
        refine hS.new (fun f9 w9 hf9 hS => ?_)
        have hff := hS.fresh 1 rfl
        repeat' ((conv => whnf); first | refine RetC.mk ?_ | refine NzC.mk (by decide) ?_ | refine RngC.mk (by omega) (by omega) ?_ | refine IdxC.mk (by omega) (by omega) ?_ | refine brD (fun _ => ?_) (fun _ => ?_) | refine brND (fun _ => ?_) (fun _ => ?_) | refine brN (fun _ => ?_) (fun _ => ?_) | refine brI (fun _ => ?_) (fun _ => ?_))
        refine ⟨⟨_, _, rfl, .inr ⟨by dsimp only; omega, by dsimp only; omega, f9, rfl, Nat.le_trans hx0.size hff, hS.blk 1 rfl⟩, fun _ => rfl, fun h => by cases h⟩, hx0.trans hS.ext⟩
  · have hkn : k = n := by omega
    rw [List.drop_of_length_le (by omega)] at hi
    rw [hi]
    repeat' ((conv => whnf); first | refine RetC.mk ?_ | refine NzC.mk (by decide) ?_ | refine RngC.mk (by omega) (by omega) ?_ | refine IdxC.mk (by omega) (by omega) ?_ | refine brD (fun _ => ?_) (fun _ => ?_) | refine brND (fun _ => ?_) (fun _ => ?_) | refine brN (fun _ => ?_) (fun _ => ?_) | refine brI (fun _ => ?_) (fun _ => ?_))
    exact ⟨⟨_, _, rfl, .inl ⟨rfl, rfl⟩, fun h => absurd rfl h, fun _ => ⟨bo, rfl, hout.no hS.ext⟩⟩, hx0.trans hS.ext⟩
end
end Go.Proofs.YtgcbcagaibecbaaGreatDoor.Pool

namespace Go.Proofs.YtgcbcagaibecbaaGreatDoor
set_option maxRecDepth 20000
open Go Ev
variable [Go.Proofs.YtgcbcagaibecbaaGreatDoor.Gap.Leaps]

end Go.Proofs.YtgcbcagaibecbaaGreatDoor

namespace Go.Proofs.YtgcbcagaibecbaaGreatDoor
set_option maxRecDepth 20000
open Go Ev
variable [Go.Proofs.YtgcbcagaibecbaaGreatDoor.Gap.Leaps]

end Go.Proofs.YtgcbcagaibecbaaGreatDoor

namespace Go.Proofs.YtgcbcagaibecbaaGreatDoor
set_option maxRecDepth 20000
open Go Ev
variable [Go.Proofs.YtgcbcagaibecbaaGreatDoor.Gap.Leaps]

end Go.Proofs.YtgcbcagaibecbaaGreatDoor

namespace Go.Proofs.YtgcbcagaibecbaaGreatDoor
set_option maxRecDepth 20000
open Go Ev
variable [Go.Proofs.YtgcbcagaibecbaaGreatDoor.Gap.Leaps]

structure BytS where
  data : List UInt8
  off : Bool
  left : Int
def BytS.write (B : BytS) (p : Nat) : List UInt8 → Bool × BytS
  | [] => (true, B)
  | x :: r => if B.off = true ∨ B.left = 0 then (false, ⟨B.data, true, B.left⟩) else BytS.write ⟨B.data.set p x, B.off, if B.left - 1 > -1 then B.left - 1 else -1⟩ (p + 1) r
section
variable {w : World} {b : Nat} {B : BytS}
theorem drop_at {α : Type} {s : List α} {i : Nat} {x : α} (h : s[i]? = some x) : s.drop i = x :: s.drop (i + 1) := by
  obtain ⟨lt, e⟩ := List.getElem?_eq_some_iff.1 h
  rw [List.drop_eq_getElem_cons lt, e]
end
end Go.Proofs.YtgcbcagaibecbaaGreatDoor

namespace Go.Proofs.YtgcbcagaibecbaaGreatDoor
set_option maxRecDepth 20000
open Go Ev
variable [Go.Proofs.YtgcbcagaibecbaaGreatDoor.Gap.Leaps]

theorem nilT_holds (w : World) : (ownL 9 1 encT (.slice none 0 0) []).holds w := own_nil _ _ _
theorem rcutT_ok (l : List UInt8) (c : UInt8) (hl : l.length ≤ 100000) (w : World) :
    CallC Tryz.prog 17 #[.string (bs l), .int .u8 (c.toNat : Int)] w fun v w' => (∃ a d, v = .slice a (cutR c l).length d ∧ (ownL 9 1 encT (.slice a (cutR c l).length d) (cutR c l)).holds w' ∧ Fresh w w' (.slice a (cutR c l).length d)) ∧ Ext No w w' := by
  have hsz := bs_size l
  have hcut := cutF_cutR c l
  refine fn_intro tabOk Tryz.func17 (by kernel_rfl) rfl Tryz.ntmps17 (Nat.le_of_ble_eq_true rfl) ?_
  have hS := St.start w No
  have hS := hS.add (ownL_local (e := 9) (enc := encT) (sz := 1) (v := .slice none 0 0) (xs := [])) (nilT_holds _) (by simp [ownL, own, Value.ownBlock]) (by simp [ownL, own, Value.ownBlock])
  (conv => whnf)
  refine loopR tabOk (fun σ w' q => ∃ (k : Nat) (a : Option Addr) (d : Nat) (m : Nat), σ = [(7, .int .i64 (k : Int)), (6, .string (bs (cutF c (l.take k)).2)), (5, .slice a m d), (1, .int .u8 (c.toNat : Int)), (0, .string (bs l))] ∧ q = l.length - k ∧ k ≤ l.length ∧ (cutF c (l.take k)).1.length = m ∧ St w No w' [ownL 9 1 encT (.slice a m d) (cutF c (l.take k)).1])
    (σ' := [(7, .int .i64 ((0 : Nat) : Int)), (6, .string (bs [])), (5, .slice none 0 0), (1, .int .u8 (c.toNat : Int)), (0, .string (bs l))]) (n := l.length) ⟨rfl, rfl, rfl, rfl, rfl, trivial⟩ ⟨0, none, 0, 0, rfl, rfl, Nat.zero_le _, rfl, hS⟩ ?_
  clear hS
  rintro _ w1 q ⟨k, a, d, m, rfl, rfl, hk, hm, hS⟩
  have hcl := cutF_len c (l.take k)
  rw [List.length_take] at hcl
  (conv => whnf)
  refine brD (fun h3 => ?_) (fun h3 => ?_)
  · have hkn : k < l.length := by omega
    have hat := List.getElem?_eq_getElem hkn
    generalize l[k] = x at hat
    have hst := cutF_step (c := c) hat
    unfold cutStep at hst
    (conv => whnf)
    refine idxS Tryz.underlying9 rfl hat ?_
    (conv => whnf)
    refine eqC ?_
    have hxc : ((x.toNat : Int) == (c.toNat : Int)) = decide (x = c) := by
      rw [Bool.eq_iff_iff, beq_iff_eq, decide_eq_true_iff]
      exact ⟨fun h => UInt8.toNat_inj.1 (by omega), fun h => by rw [h]⟩
    rw [hxc]
    (conv => whnf)
    refine brD (fun h4 => ?_) (fun h4 => ?_)
    · rw [if_pos h4] at hst
      (conv => whnf)
      refine hS.lit (cs := encT (cutF c (l.take k)).2) Tryz.underlying22 (sz := 1) (by kernel_rfl) (z := .string (bs [])) (by kernel_rfl) rfl rfl (by rfl) (fun bl w' hbl hS => ?_)
      have hx : Slc w' 1 encT (fun _ => True) (some ⟨bl, 0, none⟩) 1 [(cutF c (l.take k)).2] := Slc.of_blk codT (hS.blk 1 rfl) rfl (by decide) (fun _ _ => trivial) rfl
      (conv => whnf)
      refine hS.appS codT 0 Tryz.underlying22 (bytes := 16) (by kernel_rfl) (z := .string (bs [])) (by kernel_rfl) rfl rfl hx (by unfold maxLen; omega) (by omega) (fun a2 c2 w' hS => ?_)
      rw [hm] at hS ⊢
      replace hS : St w No w' [ownL 9 1 encT (.slice a2 (m + 1) c2) ((cutF c (l.take k)).1 ++ [(cutF c (l.take k)).2]), blk bl 9 (encT (cutF c (l.take k)).2)] := hS
      replace hS := hS.keep 1
      have e1 : (cutF c (l.take (k + 1))).1 = (cutF c (l.take k)).1 ++ [(cutF c (l.take k)).2] := by rw [hst]
      have e2 : (cutF c (l.take (k + 1))).2 = [] := by rw [hst]
      (conv => whnf)
      refine RngC.mk (by omega) (by omega) ?_
      (conv => whnf)
      refine LoopE.mk ⟨_, [(7, .int .i64 ((k + 1 : Nat) : Int)), (6, .string (bs (cutF c (l.take (k + 1))).2)), (5, _), (1, _), (0, _)], ?_, ⟨rfl, by rw [e2]; rfl, rfl, rfl, rfl, trivial⟩, ⟨k + 1, a2, c2, m + 1, rfl, rfl, by omega, by rw [e1, List.length_append, hm]; rfl, by rw [e1]; exact hS⟩⟩
      omega
    · rw [if_neg h4] at hst
      have e1 : (cutF c (l.take (k + 1))).1 = (cutF c (l.take k)).1 := by rw [hst]
      have e2 : (cutF c (l.take (k + 1))).2 = (cutF c (l.take k)).2 ++ [x] := by rw [hst]
      have hsl : (l.drop k).take (k + 1 - k) = [x] := by
        rw [drop_at hat, show k + 1 - k = 1 by omega]
        rfl
      (conv => whnf)
      refine RngC.mk (by omega) (by omega) ?_
      (conv => whnf)
      refine slcS Tryz.underlying9 (a := k) (b := k + 1) rfl (by omega) (by omega) (by omega) hsl ?_
      (conv => whnf)
      refine addS (by simp; omega) ?_
      rw [← e2]
      (conv => whnf)
      refine RngC.mk (by omega) (by omega) ?_
      (conv => whnf)
      refine LoopE.mk ⟨_, [(7, .int .i64 ((k + 1 : Nat) : Int)), (6, _), (5, _), (1, _), (0, _)], ?_, ⟨rfl, rfl, rfl, rfl, rfl, trivial⟩, ⟨k + 1, a, d, m, rfl, rfl, by omega, by rw [e1, hm], by rw [e1]; exact hS⟩⟩
      omega
  · obtain rfl : k = l.length := by omega
    rw [List.take_length] at hS hm hcl ⊢
    (conv => whnf)
    refine hS.lit (cs := encT (cutF c l).2) Tryz.underlying22 (sz := 1) (by kernel_rfl) (z := .string (bs [])) (by kernel_rfl) rfl rfl (by rfl) (fun bl w' hbl hS => ?_)
    have hx : Slc w' 1 encT (fun _ => True) (some ⟨bl, 0, none⟩) 1 [(cutF c l).2] := Slc.of_blk codT (hS.blk 1 rfl) rfl (by decide) (fun _ _ => trivial) rfl
    (conv => whnf)
    refine hS.appS codT 0 Tryz.underlying22 (bytes := 16) (by kernel_rfl) (z := .string (bs [])) (by kernel_rfl) rfl rfl hx (by unfold maxLen; omega) (by omega) (fun a2 c2 w' hS => ?_)
    replace hS : St w No w' [ownL 9 1 encT (.slice a2 ((cutF c l).1.length + 1) c2) ((cutF c l).1 ++ [(cutF c l).2]), blk bl 9 (encT (cutF c l).2)] := hS
    have hlen : (cutF c l).1.length + 1 = (cutR c l).length := by rw [← hcut, List.length_append]; rfl
    rw [hlen, hcut] at hS
    rw [hlen]
    repeat' ((conv => whnf); first | refine RetC.mk ?_ | refine NzC.mk (by decide) ?_ | refine RngC.mk (by omega) (by omega) ?_ | refine IdxC.mk (by omega) (by omega) ?_ | refine brD (fun _ => ?_) (fun _ => ?_) | refine brND (fun _ => ?_) (fun _ => ?_) | refine brN (fun _ => ?_) (fun _ => ?_) | refine brI (fun _ => ?_) (fun _ => ?_))
    exact ⟨⟨a2, c2, rfl, hS.get 0 rfl, hS.freshAt 0 rfl⟩, hS.ext⟩
end Go.Proofs.YtgcbcagaibecbaaGreatDoor

namespace Go.Proofs.YtgcbcagaibecbaaGreatDoor
set_option maxRecDepth 20000
open Go Ev
variable [Go.Proofs.YtgcbcagaibecbaaGreatDoor.Gap.Leaps]
section
variable {P : Program} {k : Value → Prop} {t : TypeId}
theorem Ev.subC8 {a b : Nat} (h : b ≤ a) (ha : a < 256) (hk : k (.int .u8 ((a - b : Nat) : Int))) : PureC P (Go.binOp .sub t (.int .u8 (a : Int)) (.int .u8 (b : Int))) k :=
  PureC.of (fun w => by
    rw [show Go.binOp .sub t (.int .u8 (a : Int)) (.int .u8 (b : Int)) = Op.intArith .sub .u8 (a : Int) (b : Int) by simp [Go.binOp]]
    show (pure (Value.int .u8 (IntKind.u8.wrap ((a : Int) - (b : Int)))) : Sem Value).run P w = _
    rw [IntKind.wrap_u8', show ((a : Int) - (b : Int)) = ((a - b : Nat) : Int) by omega, show (((a - b : Nat) : Int)) % 256 = ((a - b : Nat) : Int) by omega]
    rfl) hk
end
theorem valD_lt : ∀ (l : List UInt8), (∀ b ∈ l, isDig b = true) → valD l < 10 ^ l.length := by
  have key : ∀ (l : List UInt8) (acc : Nat), (∀ b ∈ l, isDig b = true) → l.foldl (fun n b => 10 * n + (b.toNat - 48)) acc < (acc + 1) * 10 ^ l.length := by
    intro l
    induction l with
    | nil => intro acc _; simp
    | cons b l ih =>
      intro acc hb
      have hd := isDig_iff.1 (hb b List.mem_cons_self)
      have := ih (10 * acc + (b.toNat - 48)) fun c hc => hb c (List.mem_cons_of_mem _ hc)
      rw [List.foldl_cons, List.length_cons, Nat.pow_succ]
      refine Nat.lt_of_lt_of_le this ?_
      rw [Nat.mul_comm (10 ^ l.length) 10, ← Nat.mul_assoc]
      exact Nat.mul_le_mul_right _ (by omega)
  intro l h
  have := key l 0 h
  rwa [Nat.zero_add, Nat.one_mul] at this
theorem valD_take {s : List UInt8} {k : Nat} {x : UInt8} (h : s[k]? = some x) : valD (s.take (k + 1)) = 10 * valD (s.take k) + (x.toNat - 48) := by
  rw [List.take_add_one, h]
  exact valD_app _ _
theorem take_dig {s : List UInt8} {k : Nat} {x : UInt8} (h : s[k]? = some x) (hx : isDig x = true) (hd : ∀ b ∈ s.take k, isDig b = true) : ∀ b ∈ s.take (k + 1), isDig b = true := by
  rw [List.take_add_one, h]
  intro b hb
  rcases List.mem_append.1 hb with hb | hb
  · exact hd b hb
  · obtain rfl : b = x := by simpa using hb
    exact hx
theorem all_bad {s : List UInt8} {k : Nat} {x : UInt8} (h : s[k]? = some x) (hx : ¬ isDig x = true) : ¬ s.all isDig = true := fun ha => hx (List.all_eq_true.1 ha x (List.mem_of_getElem? h))
theorem numberOf_ok (s : List UInt8) (most : Nat) (hl : s.length ≤ 100000) (hm : most ≤ 18) (w : World) :
    CallC Tryz.prog 32 #[.string (bs s), .int .i64 (most : Int)] w fun v w' => v = .int .i64 (numS s most) ∧ Ext No w w' := by
  have hsz := bs_size s
  unfold numS
  refine fn_intro tabOk Tryz.func32 (by kernel_rfl) rfl Tryz.ntmps32 (Nat.le_of_ble_eq_true rfl) ?_
  have hS := St.start w No
  (conv => whnf)
  refine brD (fun h1 => ?_) (fun h1 => ?_)
  · rw [if_pos (.inl (by omega))]
    repeat' ((conv => whnf); first | refine RetC.mk ?_ | refine NzC.mk (by decide) ?_ | refine RngC.mk (by omega) (by omega) ?_ | refine IdxC.mk (by omega) (by omega) ?_ | refine brD (fun _ => ?_) (fun _ => ?_) | refine brND (fun _ => ?_) (fun _ => ?_) | refine brN (fun _ => ?_) (fun _ => ?_) | refine brI (fun _ => ?_) (fun _ => ?_))
    exact ⟨rfl, hS.ext⟩
  (conv => whnf)
  refine brD (fun h2 => ?_) (fun h2 => ?_)
  · rw [if_pos (.inr (.inl (by omega)))]
    repeat' ((conv => whnf); first | refine RetC.mk ?_ | refine NzC.mk (by decide) ?_ | refine RngC.mk (by omega) (by omega) ?_ | refine IdxC.mk (by omega) (by omega) ?_ | refine brD (fun _ => ?_) (fun _ => ?_) | refine brND (fun _ => ?_) (fun _ => ?_) | refine brN (fun _ => ?_) (fun _ => ?_) | refine brI (fun _ => ?_) (fun _ => ?_))
    exact ⟨rfl, hS.ext⟩
  have main : ∀ {Q : Prop}, (¬ (s.length < 1 ∨ s.length > most ∨ (s.length > 1 ∧ s[0]? = some 48)) → Q) → ¬ (s.length > 1 ∧ s[0]? = some 48) → Q := fun h h3 => h (by
    rintro (h | h | h)
    · omega
    · omega
    · exact h3 h)
  (conv => whnf)
  refine brD (fun h3 => ?_) (fun h3 => ?_)
  · obtain ⟨x, hx⟩ : ∃ x, s[0]? = some x := ⟨_, List.getElem?_eq_getElem (by omega)⟩
    (conv => whnf)
    refine idxS (j := 0) Tryz.underlying9 rfl hx ?_
    (conv => whnf)
    refine eqC ?_
    have hxc : ((x.toNat : Int) == 48) = decide (x = 48) := by
      rw [Bool.eq_iff_iff, beq_iff_eq, decide_eq_true_iff]
      exact ⟨fun h => UInt8.toNat_inj.1 (by show x.toNat = 48; omega), fun h => by rw [h]; rfl⟩
    rw [hxc]
    (conv => whnf)
    refine brD (fun h4 => ?_) (fun h4 => ?_)
    · rw [if_pos (.inr (.inr ⟨by omega, by rw [hx, h4]⟩))]
      repeat' ((conv => whnf); first | refine RetC.mk ?_ | refine NzC.mk (by decide) ?_ | refine RngC.mk (by omega) (by omega) ?_ | refine IdxC.mk (by omega) (by omega) ?_ | refine brD (fun _ => ?_) (fun _ => ?_) | refine brND (fun _ => ?_) (fun _ => ?_) | refine brN (fun _ => ?_) (fun _ => ?_) | refine brI (fun _ => ?_) (fun _ => ?_))
      exact ⟨rfl, hS.ext⟩
    · refine main (fun h => ?_) (fun h => h4 (by have := h.2; rw [hx] at this; exact Option.some.inj this))
      rw [if_neg h]
      (conv => whnf)
      refine loopR tabOk (fun σ w' q => ∃ k : Nat, σ = [(6, .int .i64 (k : Int)), (5, .int .i64 (valD (s.take k) : Nat)), (0, .string (bs s))] ∧ q = s.length - k ∧ k ≤ s.length ∧ (∀ b ∈ s.take k, isDig b = true) ∧ St w No w' [])
        (σ' := [(6, .int .i64 ((0 : Nat) : Int)), (5, .int .i64 ((0 : Nat) : Int)), (0, .string (bs s))]) (n := s.length) ⟨rfl, rfl, rfl, trivial⟩ ⟨0, rfl, rfl, Nat.zero_le _, by simp, hS⟩ ?_
      clear hS
      rintro _ w1 q ⟨k, rfl, rfl, hk, hd, hS⟩
      (conv => whnf)
      refine brD (fun h5 => ?_) (fun h5 => ?_)
      · obtain ⟨x, hx⟩ : ∃ x, s[k]? = some x := ⟨_, List.getElem?_eq_getElem (by omega)⟩
        have hst := valD_take hx
        have hlt : valD (s.take k) < 10 ^ 17 := Nat.lt_of_lt_of_le (valD_lt _ hd) (Nat.pow_le_pow_right (by decide) (by rw [List.length_take]; omega))
        have hxl := x.toNat_lt
        (conv => whnf)
        refine idxS (j := k) Tryz.underlying9 rfl hx ?_
        (conv => whnf)
        refine ltC ?_
        (conv => whnf)
        refine brD (fun h6 => ?_) (fun h6 => ?_)
        · rw [if_neg (all_bad hx (by rw [isDig_iff]; omega))]
          repeat' ((conv => whnf); first | refine RetC.mk ?_ | refine NzC.mk (by decide) ?_ | refine RngC.mk (by omega) (by omega) ?_ | refine IdxC.mk (by omega) (by omega) ?_ | refine brD (fun _ => ?_) (fun _ => ?_) | refine brND (fun _ => ?_) (fun _ => ?_) | refine brN (fun _ => ?_) (fun _ => ?_) | refine brI (fun _ => ?_) (fun _ => ?_))
          exact ⟨rfl, hS.ext⟩
        (conv => whnf)
        refine idxS (j := k) Tryz.underlying9 rfl hx ?_
        (conv => whnf)
        refine gtC ?_
        (conv => whnf)
        refine brD (fun h7 => ?_) (fun h7 => ?_)
        · rw [if_neg (all_bad hx (by rw [isDig_iff]; omega))]
          repeat' ((conv => whnf); first | refine RetC.mk ?_ | refine NzC.mk (by decide) ?_ | refine RngC.mk (by omega) (by omega) ?_ | refine IdxC.mk (by omega) (by omega) ?_ | refine brD (fun _ => ?_) (fun _ => ?_) | refine brND (fun _ => ?_) (fun _ => ?_) | refine brN (fun _ => ?_) (fun _ => ?_) | refine brI (fun _ => ?_) (fun _ => ?_))
          exact ⟨rfl, hS.ext⟩
        (conv => whnf)
        refine RngC.mk (by omega) (by omega) ?_
        (conv => whnf)
        refine idxS (j := k) Tryz.underlying9 rfl hx ?_
        (conv => whnf)
        refine subC8 (b := 48) (by omega) (by omega) ?_
        (conv => whnf)
        refine convI (kd := .i64) (m := ((x.toNat - 48 : Nat) : Int)) (by kernel_rfl) Tryz.underlying3 (by rw [IntKind.wrap_i64]; omega) ?_
        (conv => whnf)
        refine RngC.mk (by omega) (by omega) ?_
        (conv => whnf)
        refine RngC.mk (by omega) (by omega) ?_
        (conv => whnf)
        refine LoopE.mk ⟨_, [(6, .int .i64 ((k + 1 : Nat) : Int)), (5, .int .i64 (valD (s.take (k + 1)) : Nat)), (0, _)], ?_, ⟨rfl, by rw [hst, Int.natCast_add, Int.natCast_mul]; rfl, rfl, trivial⟩, ⟨k + 1, rfl, rfl, by omega, take_dig hx (isDig_iff.2 ⟨by omega, by omega⟩) hd, hS⟩⟩
        omega
      · obtain rfl : k = s.length := by omega
        rw [List.take_length] at hd ⊢
        rw [if_pos (List.all_eq_true.2 hd)]
        repeat' ((conv => whnf); first | refine RetC.mk ?_ | refine NzC.mk (by decide) ?_ | refine RngC.mk (by omega) (by omega) ?_ | refine IdxC.mk (by omega) (by omega) ?_ | refine brD (fun _ => ?_) (fun _ => ?_) | refine brND (fun _ => ?_) (fun _ => ?_) | refine brN (fun _ => ?_) (fun _ => ?_) | refine brI (fun _ => ?_) (fun _ => ?_))
        exact ⟨rfl, hS.ext⟩
  · refine main (fun h => ?_) (fun h => h3 (by have := h.1; omega))
    rw [if_neg h]
    (conv => whnf)
    refine loopR tabOk (fun σ w' q => ∃ k : Nat, σ = [(6, .int .i64 (k : Int)), (5, .int .i64 (valD (s.take k) : Nat)), (0, .string (bs s))] ∧ q = s.length - k ∧ k ≤ s.length ∧ (∀ b ∈ s.take k, isDig b = true) ∧ St w No w' [])
      (σ' := [(6, .int .i64 ((0 : Nat) : Int)), (5, .int .i64 ((0 : Nat) : Int)), (0, .string (bs s))]) (n := s.length) ⟨rfl, rfl, rfl, trivial⟩ ⟨0, rfl, rfl, Nat.zero_le _, by simp, hS⟩ ?_
    clear hS
    rintro _ w1 q ⟨k, rfl, rfl, hk, hd, hS⟩
    (conv => whnf)
    refine brD (fun h5 => ?_) (fun h5 => ?_)
    · obtain ⟨x, hx⟩ : ∃ x, s[k]? = some x := ⟨_, List.getElem?_eq_getElem (by omega)⟩
      have hst := valD_take hx
      have hlt : valD (s.take k) < 10 ^ 17 := Nat.lt_of_lt_of_le (valD_lt _ hd) (Nat.pow_le_pow_right (by decide) (by rw [List.length_take]; omega))
      have hxl := x.toNat_lt
      (conv => whnf)
      refine idxS (j := k) Tryz.underlying9 rfl hx ?_
      (conv => whnf)
      refine ltC ?_
      (conv => whnf)
      refine brD (fun h6 => ?_) (fun h6 => ?_)
      · rw [if_neg (all_bad hx (by rw [isDig_iff]; omega))]
        repeat' ((conv => whnf); first | refine RetC.mk ?_ | refine NzC.mk (by decide) ?_ | refine RngC.mk (by omega) (by omega) ?_ | refine IdxC.mk (by omega) (by omega) ?_ | refine brD (fun _ => ?_) (fun _ => ?_) | refine brND (fun _ => ?_) (fun _ => ?_) | refine brN (fun _ => ?_) (fun _ => ?_) | refine brI (fun _ => ?_) (fun _ => ?_))
        exact ⟨rfl, hS.ext⟩
      (conv => whnf)
      refine idxS (j := k) Tryz.underlying9 rfl hx ?_
      (conv => whnf)
      refine gtC ?_
      (conv => whnf)
      refine brD (fun h7 => ?_) (fun h7 => ?_)
      · rw [if_neg (all_bad hx (by rw [isDig_iff]; omega))]
        repeat' ((conv => whnf); first | refine RetC.mk ?_ | refine NzC.mk (by decide) ?_ | refine RngC.mk (by omega) (by omega) ?_ | refine IdxC.mk (by omega) (by omega) ?_ | refine brD (fun _ => ?_) (fun _ => ?_) | refine brND (fun _ => ?_) (fun _ => ?_) | refine brN (fun _ => ?_) (fun _ => ?_) | refine brI (fun _ => ?_) (fun _ => ?_))
        exact ⟨rfl, hS.ext⟩
      (conv => whnf)
      refine RngC.mk (by omega) (by omega) ?_
      (conv => whnf)
      refine idxS (j := k) Tryz.underlying9 rfl hx ?_
      (conv => whnf)
      refine subC8 (b := 48) (by omega) (by omega) ?_
      (conv => whnf)
      refine convI (kd := .i64) (m := ((x.toNat - 48 : Nat) : Int)) (by kernel_rfl) Tryz.underlying3 (by rw [IntKind.wrap_i64]; omega) ?_
      (conv => whnf)
      refine RngC.mk (by omega) (by omega) ?_
      (conv => whnf)
      refine RngC.mk (by omega) (by omega) ?_
      (conv => whnf)
      refine LoopE.mk ⟨_, [(6, .int .i64 ((k + 1 : Nat) : Int)), (5, .int .i64 (valD (s.take (k + 1)) : Nat)), (0, _)], ?_, ⟨rfl, by rw [hst, Int.natCast_add, Int.natCast_mul]; rfl, rfl, trivial⟩, ⟨k + 1, rfl, rfl, by omega, take_dig hx (isDig_iff.2 ⟨by omega, by omega⟩) hd, hS⟩⟩
      omega
    · obtain rfl : k = s.length := by omega
      rw [List.take_length] at hd ⊢
      rw [if_pos (List.all_eq_true.2 hd)]
      repeat' ((conv => whnf); first | refine RetC.mk ?_ | refine NzC.mk (by decide) ?_ | refine RngC.mk (by omega) (by omega) ?_ | refine IdxC.mk (by omega) (by omega) ?_ | refine brD (fun _ => ?_) (fun _ => ?_) | refine brND (fun _ => ?_) (fun _ => ?_) | refine brN (fun _ => ?_) (fun _ => ?_) | refine brI (fun _ => ?_) (fun _ => ?_))
      exact ⟨rfl, hS.ext⟩
end Go.Proofs.YtgcbcagaibecbaaGreatDoor

namespace Go.Proofs.YtgcbcagaibecbaaGreatDoor
set_option maxRecDepth 20000
open Go Ev
variable [Go.Proofs.YtgcbcagaibecbaaGreatDoor.Gap.Leaps]
theorem ownT_some {w : World} {a : Option Addr} {n c : Nat} {xs : List (List UInt8)} (h : (ownL 9 1 encT (.slice a n c) xs).holds w) (hn : xs ≠ []) : ∃ b, a = some ⟨b, 0, none⟩ := by
  obtain ⟨h1, ⟨h2, h3⟩ | ⟨g, cap, cur, h2, _⟩⟩ := h
  · exact absurd (List.eq_nil_of_length_eq_zero h3) hn
  · cases h2
    exact ⟨g, rfl⟩
theorem ownT_cell {w : World} {b n c j : Nat} {xs : List (List UInt8)} {x : List UInt8} (h : (ownL 9 1 encT (.slice (some ⟨b, 0, none⟩) n c) xs).holds w) (hj : xs[j]? = some x) : w.cell? ⟨b, 0 + j * 1, none⟩ = some (.string (bs x)) := by
  have hn := (ownL_slc (G := fun _ => True) codT h fun _ _ => trivial).len
  have hlt := (List.getElem?_eq_some_iff.1 hj).1
  obtain ⟨b', o', x', h1, _, h2, _, h3⟩ := (ownL_slc (G := fun _ => True) codT h fun _ _ => trivial).at (k := j) (by omega)
  cases h2
  rw [hj] at h1
  cases h1
  exact h3 0 _ rfl
theorem ownT_ne {w0 w : World} {H : List Ent} (h : St w0 No w H) (i j : Nat) {b c n d : Nat} {t : TypeId} {cs : List Value} {xs : List (List UInt8)} (hi : H[i]? = some (blk c t cs)) (hj : H[j]? = some (ownL 9 1 encT (.slice (some ⟨b, 0, none⟩) n d) xs)) (hne : i ≠ j) : c ≠ b := fun e =>
  h.apartAt i j hi hj hne c (List.mem_singleton.2 rfl) (by simp [ownL, own, Value.ownBlock, e])
theorem ruleOfS_bad {s a b p n : List UInt8} (hw : cutR 32 s = [a, b, p, n]) (h : ¬ ((a = sAllow ∨ a = sDeny) ∧ (b = sOut ∨ b = sIn) ∧ 0 ≤ protoK p)) : ruleOfS s = none := by
  unfold ruleOfS
  rw [hw]
  dsimp only
  rw [if_neg h]
theorem ruleOfS_bad2 {s a b p n : List UInt8} (hw : cutR 32 s = [a, b, p, n]) (h : (cutR 45 n).length ≠ 2) : ruleOfS s = none := by
  unfold ruleOfS
  rw [hw]
  dsimp only
  split
  · split
    · rename_i e
      rw [e] at h
      exact absurd rfl h
    · rfl
  · rfl
theorem ruleOfS_good {s a b p n x y : List UInt8} {P : Int} (hw : cutR 32 s = [a, b, p, n]) (ha : a = sAllow ∨ a = sDeny) (hb : b = sOut ∨ b = sIn) (hp : protoK p = P) (hp0 : 0 ≤ P) (hn : cutR 45 n = [x, y]) :
    ruleOfS s = if 0 ≤ numS x 5 ∧ 0 ≤ numS y 5 then some ⟨decide (a = sAllow), decide (b = sOut), P, numS x 5, numS y 5⟩ else none := by
  unfold ruleOfS
  rw [hw]
  dsimp only
  rw [if_pos ⟨ha, hb, by omega⟩, hn, hp]
theorem words2 {s : List UInt8} (h : (cutR 45 s).length = 2) : ∃ x y, cutR 45 s = [x, y] := by
  generalize cutR 45 s = l at h
  match l, h with
  | [a, b], _ => exact ⟨a, b, rfl⟩
theorem rruleOf_ok (s : List UInt8) (hl : s.length ≤ 100000) (w : World) :
    CallC Tryz.prog 18 #[.string (bs s)] w fun v w' => (∃ r k, v = .tuple #[.agg (encRule r).toArray, .bool k] ∧ (ruleOfS s = if k = true then some r else none)) ∧ Ext No w w' := by
  refine fn_intro tabOk Tryz.func18 (by kernel_rfl) rfl Tryz.ntmps18 (Nat.le_of_ble_eq_true rfl) ?_
  have hS := St.start w No
  (conv => whnf)
  refine hS.new (fun b2 w' hb2 hS => ?_)
  replace hS : St w No w' [blk b2 41 (encRule noRule)] := hS
  (conv => whnf)
  refine (rcutT_ok s 32 hl _).mono ?_
  rintro v w1 ⟨⟨a0, d, rfl, ho, hf⟩, hx⟩
  replace hS := hS.madeL hx ho hf
  clear hx ho hf
  (conv => whnf)
  refine brND (fun h4 => ?_) (fun h4 => ?_)
  · have h4 := ruleOfS_words (s := s) (by omega)
    (conv => whnf)
    refine hS.st 0 rfl (Nat.le_of_ble_eq_true rfl) rfl (fun w' hS => ?_)
    (conv => whnf)
    refine hS.laX 0 rfl rfl ?_
    repeat' ((conv => whnf); first | refine RetC.mk ?_ | refine NzC.mk (by decide) ?_ | refine RngC.mk (by omega) (by omega) ?_ | refine IdxC.mk (by omega) (by omega) ?_ | refine brD (fun _ => ?_) (fun _ => ?_) | refine brND (fun _ => ?_) (fun _ => ?_) | refine brN (fun _ => ?_) (fun _ => ?_) | refine brI (fun _ => ?_) (fun _ => ?_))
    exact ⟨⟨noRule, false, rfl, h4⟩, hS.ext⟩
  obtain ⟨a, b4, p, n, hw⟩ := words4 (s := s) (by omega)
  have hnl := cutR_mem_len (c := 32) (l := s) (w := n) (by rw [hw]; simp)
  rw [hw] at hS ⊢
  have hl4 : ([a, b4, p, n] : List (List UInt8)).length = 4 := rfl
  obtain ⟨b, rfl⟩ := ownT_some (hS.get 1 rfl) (by simp)
  (conv => whnf)
  (refine drawS tabOk mixed [] ((· ≠ b)) [0, 1, 2, 3, 4, 5, 6, 7, 8, 9, 10] (by kernel_rfl) ?_; rintro w1 rfl; replace hS := hS.drew)
  have hK := hS.ref (· ≠ b)
  (conv => whnf)
  refine IdxC.mk (by omega) (by omega) ?_
  (conv => whnf)
  refine Ev.ldFc (ownT_cell (j := 0) (hS.get 1 rfl) rfl) (fun h => h rfl) ?_
  (conv => whnf)
  refine eqS2 ?_
  (conv => whnf)
  refine IdxC.mk (by omega) (by omega) ?_
  (conv => whnf)
  refine Ev.ldFc (ownT_cell (j := 1) (hS.get 1 rfl) rfl) (fun h => h rfl) ?_
  (conv => whnf)
  refine eqS2 ?_
  (conv => whnf)
  refine hS.newK hK (fun b5 w' hK hS => KeepC.mk hK ?_)
  (conv => whnf)
  refine hS.stK hK 2 rfl (Nat.le_of_ble_eq_true rfl) rfl (ownT_ne hS 2 1 rfl rfl (by decide)) (fun w' hK hS => KeepC.mk hK ?_)
  clear hK
  (conv => whnf)
  refine IdxC.mk (by omega) (by omega) ?_
  (conv => whnf)
  refine Ev.ldc (ownT_cell (j := 0) (hS.get 1 rfl) rfl) ?_
  (conv => whnf)
  refine neS2 ?_
  (conv => whnf)
  refine brND (fun h1 => ?_) (fun h1 => ?_)
  rotate_left
  case' _ =>
    have ha : a = sAllow ∨ a = sDeny := .inl h1
    clear h1
  rotate_left
  case' _ =>
    (conv => whnf)
    refine IdxC.mk (by omega) (by omega) ?_
    (conv => whnf)
    refine Ev.ldc (ownT_cell (j := 0) (hS.get 1 rfl) rfl) ?_
    (conv => whnf)
    refine neS2 ?_
    (conv => whnf)
    refine brND (fun h2 => ?_) (fun h2 => ?_)
    next =>
      have hbad : ruleOfS s = none := ruleOfS_bad hw (fun h => h.1.elim h1 h2)
      (conv => whnf)
      refine hS.st 0 rfl (Nat.le_of_ble_eq_true rfl) rfl (fun w' hS => ?_)
      (conv => whnf)
      refine hS.laX 0 rfl rfl ?_
      repeat' ((conv => whnf); first | refine RetC.mk ?_ | refine NzC.mk (by decide) ?_ | refine RngC.mk (by omega) (by omega) ?_ | refine IdxC.mk (by omega) (by omega) ?_ | refine brD (fun _ => ?_) (fun _ => ?_) | refine brND (fun _ => ?_) (fun _ => ?_) | refine brN (fun _ => ?_) (fun _ => ?_) | refine brI (fun _ => ?_) (fun _ => ?_))
      exact ⟨⟨noRule, false, rfl, hbad⟩, hS.ext⟩
    case' _ =>
      have ha : a = sAllow ∨ a = sDeny := .inr h2
      clear h1 h2
  all_goals
    (conv => whnf)
    refine IdxC.mk (by omega) (by omega) ?_
    (conv => whnf)
    refine Ev.ldc (ownT_cell (j := 1) (hS.get 1 rfl) rfl) ?_
    (conv => whnf)
    refine neS2 ?_
    (conv => whnf)
    refine brND (fun h5 => ?_) (fun h5 => ?_)
    rotate_left
    case' _ =>
      have hb4 : b4 = sOut ∨ b4 = sIn := .inl h5
      clear h5
    rotate_left
    case' _ =>
      (conv => whnf)
      refine IdxC.mk (by omega) (by omega) ?_
      (conv => whnf)
      refine Ev.ldc (ownT_cell (j := 1) (hS.get 1 rfl) rfl) ?_
      (conv => whnf)
      refine neS2 ?_
      (conv => whnf)
      refine brND (fun h6 => ?_) (fun h6 => ?_)
      next =>
        have hbad : ruleOfS s = none := ruleOfS_bad hw (fun h => h.2.1.elim h5 h6)
        (conv => whnf)
        refine hS.st 0 rfl (Nat.le_of_ble_eq_true rfl) rfl (fun w' hS => ?_)
        (conv => whnf)
        refine hS.laX 0 rfl rfl ?_
        repeat' ((conv => whnf); first | refine RetC.mk ?_ | refine NzC.mk (by decide) ?_ | refine RngC.mk (by omega) (by omega) ?_ | refine IdxC.mk (by omega) (by omega) ?_ | refine brD (fun _ => ?_) (fun _ => ?_) | refine brND (fun _ => ?_) (fun _ => ?_) | refine brN (fun _ => ?_) (fun _ => ?_) | refine brI (fun _ => ?_) (fun _ => ?_))
        exact ⟨⟨noRule, false, rfl, hbad⟩, hS.ext⟩
      case' _ =>
        have hb4 : b4 = sOut ∨ b4 = sIn := .inr h6
        clear h5 h6
    all_goals
      (conv => whnf)
      refine IdxC.mk (by omega) (by omega) ?_
      (conv => whnf)
      refine Ev.ldc (ownT_cell (j := 2) (hS.get 1 rfl) rfl) ?_
      (conv => whnf)
      refine eqS2 ?_
      (conv => whnf)
      refine brD (fun h7 => ?_) (fun h7 => ?_)
      case' _ =>
        (conv => whnf)
        refine hS.st 2 rfl (Nat.le_of_ble_eq_true rfl) rfl (fun w' hS => ?_)
        have hQ : (∃ P, 0 ≤ P ∧ protoK p = P ∧ St w No _ [blk b2 41 (encRule noRule), ownL 9 1 encT (.slice (some ⟨b, 0, none⟩) 4 d) [a, b4, p, n], blk b5 41 (encRule ⟨decide (a = sAllow), decide (b4 = sOut), P, 0, 0⟩)]) := ⟨0, by decide, if_pos h7, hS⟩
        clear hS h7
      rotate_left
      case' _ =>
        (conv => whnf)
        refine eqS2 ?_
        (conv => whnf)
        refine brD (fun h8 => ?_) (fun h8 => ?_)
        case' _ =>
          (conv => whnf)
          refine hS.st 2 rfl (Nat.le_of_ble_eq_true rfl) rfl (fun w' hS => ?_)
          have hQ : (∃ P, 0 ≤ P ∧ protoK p = P ∧ St w No _ [blk b2 41 (encRule noRule), ownL 9 1 encT (.slice (some ⟨b, 0, none⟩) 4 d) [a, b4, p, n], blk b5 41 (encRule ⟨decide (a = sAllow), decide (b4 = sOut), P, 0, 0⟩)]) := ⟨1, by decide, (if_neg h7).trans (if_pos h8), hS⟩
          clear hS h7 h8
        rotate_left
        case' _ =>
          (conv => whnf)
          refine eqS2 ?_
          (conv => whnf)
          refine brD (fun h9 => ?_) (fun h9 => ?_)
          rotate_left
          next =>
            have g7 : ¬ p = sAny := h7
            have g8 : ¬ p = sUdp := h8
            have g9 : ¬ p = sTcp := h9
            have hbad : ruleOfS s = none := ruleOfS_bad hw (fun h => by
              have h2 := h.2.2
              unfold protoK at h2
              rw [if_neg g7, if_neg g8, if_neg g9] at h2
              exact absurd h2 (by decide))
            (conv => whnf)
            refine hS.st 0 rfl (Nat.le_of_ble_eq_true rfl) rfl (fun w' hS => ?_)
            (conv => whnf)
            refine hS.laX 0 rfl rfl ?_
            repeat' ((conv => whnf); first | refine RetC.mk ?_ | refine NzC.mk (by decide) ?_ | refine RngC.mk (by omega) (by omega) ?_ | refine IdxC.mk (by omega) (by omega) ?_ | refine brD (fun _ => ?_) (fun _ => ?_) | refine brND (fun _ => ?_) (fun _ => ?_) | refine brN (fun _ => ?_) (fun _ => ?_) | refine brI (fun _ => ?_) (fun _ => ?_))
            exact ⟨⟨noRule, false, rfl, hbad⟩, hS.ext⟩
          case' _ =>
            (conv => whnf)
            refine hS.st 2 rfl (Nat.le_of_ble_eq_true rfl) rfl (fun w' hS => ?_)
            have hQ : (∃ P, 0 ≤ P ∧ protoK p = P ∧ St w No _ [blk b2 41 (encRule noRule), ownL 9 1 encT (.slice (some ⟨b, 0, none⟩) 4 d) [a, b4, p, n], blk b5 41 (encRule ⟨decide (a = sAllow), decide (b4 = sOut), P, 0, 0⟩)]) := ⟨2, by decide, (if_neg h7).trans ((if_neg h8).trans (if_pos h9)), hS⟩
            clear hS h7 h8 h9
      all_goals
        obtain ⟨P, hP, hp, hS⟩ := hQ
        (conv => whnf)
        refine IdxC.mk (by omega) (by omega) ?_
        (conv => whnf)
        refine Ev.ldc (ownT_cell (j := 3) (hS.get 1 rfl) rfl) ?_
        (conv => whnf)
        refine (rcutT_ok n 45 (by omega) _).mono ?_
        rintro v w3 ⟨⟨a2, d2, rfl, ho, hf⟩, hx⟩
        replace hS := hS.madeL hx ho hf
        clear hx ho hf
        (conv => whnf)
        refine brND (fun h10 => ?_) (fun h10 => ?_)
        · have hbad := ruleOfS_bad2 hw (by omega)
          (conv => whnf)
          refine hS.st 0 rfl (Nat.le_of_ble_eq_true rfl) rfl (fun w' hS => ?_)
          (conv => whnf)
          refine hS.laX 0 rfl rfl ?_
          repeat' ((conv => whnf); first | refine RetC.mk ?_ | refine NzC.mk (by decide) ?_ | refine RngC.mk (by omega) (by omega) ?_ | refine IdxC.mk (by omega) (by omega) ?_ | refine brD (fun _ => ?_) (fun _ => ?_) | refine brND (fun _ => ?_) (fun _ => ?_) | refine brN (fun _ => ?_) (fun _ => ?_) | refine brI (fun _ => ?_) (fun _ => ?_))
          exact ⟨⟨noRule, false, rfl, hbad⟩, hS.ext⟩
        obtain ⟨x, y, hxy⟩ := words2 (s := n) (by omega)
        have hcl2 := cutR_mem_len (c := 45) (l := n) (w := x) (by rw [hxy]; exact List.mem_cons_self)
        have hcl3 := cutR_mem_len (c := 45) (l := n) (w := y) (by rw [hxy]; exact List.mem_cons_of_mem _ List.mem_cons_self)
        have hg := ruleOfS_good hw ha hb4 hp hP hxy
        rw [hxy] at hS ⊢
        obtain ⟨bw, rfl⟩ := ownT_some (hS.get 3 rfl) (by simp)
        have hl2 : ([x, y] : List (List UInt8)).length = 2 := rfl
        (conv => whnf)
        refine IdxC.mk (by omega) (by omega) ?_
        (conv => whnf)
        refine Ev.ldc (ownT_cell (j := 0) (hS.get 3 rfl) rfl) ?_
        (conv => whnf)
        refine (numberOf_ok x 5 (by omega) (by omega) _).mono ?_
        rintro v w4 ⟨rfl, hx⟩
        replace hS := hS.no hx
        clear hx
        (conv => whnf)
        refine hS.st 2 rfl (Nat.le_of_ble_eq_true rfl) rfl (fun w' hS => ?_)
        (conv => whnf)
        refine IdxC.mk (by omega) (by omega) ?_
        (conv => whnf)
        refine Ev.ldc (ownT_cell (j := 1) (hS.get 3 rfl) rfl) ?_
        (conv => whnf)
        refine (numberOf_ok y 5 (by omega) (by omega) _).mono ?_
        rintro v w5 ⟨rfl, hx⟩
        replace hS := hS.no hx
        clear hx
        (conv => whnf)
        refine hS.st 2 rfl (Nat.le_of_ble_eq_true rfl) rfl (fun w' hS => ?_)
        generalize hr : (⟨decide (a = sAllow), decide (b4 = sOut), P, numS x 5, numS y 5⟩ : RuleS) = r at hg
        have hr1 : r.low = numS x 5 := by rw [← hr]
        have hr2 : r.top = numS y 5 := by rw [← hr]
        replace hS : St w No w' [blk b2 41 (encRule noRule), ownL 9 1 encT (.slice (some ⟨b, 0, none⟩) 4 d) [a, b4, p, n], blk b5 41 (encRule r), ownL 9 1 encT (.slice (some ⟨bw, 0, none⟩) 2 d2) [x, y]] := by
          rw [← hr]
          exact hS
        rw [← hr1, ← hr2] at hg
        clear hr1 hr2
        have hne := hS.ne 2 0 rfl rfl (by decide)
        (conv => whnf)
        (refine drawS tabOk mixed [] ((· = b2)) [0, 1, 2, 3, 4, 5, 6, 7, 8, 9, 10] (by kernel_rfl) ?_; rintro w1 rfl; replace hS := hS.drew)
        have hK := hS.ref (· = b2)
        (conv => whnf)
        refine hS.laXF 2 rfl rfl hne ?_
        (conv => whnf)
        refine hS.ldF 2 rfl rfl hne ?_
        (conv => whnf)
        refine brD (fun h11 => ?_) (fun h11 => ?_)
        · (conv => whnf)
          refine hS.ldF 2 rfl rfl hne ?_
          (conv => whnf)
          refine hS.stK hK 0 rfl (Nat.le_of_ble_eq_true rfl) rfl rfl (fun w' hK hS => KeepC.mk hK ?_)
          replace hS : St w No w' [blk b2 41 (encRule r), ownL 9 1 encT (.slice (some ⟨b, 0, none⟩) 4 d) [a, b4, p, n], blk b5 41 (encRule r), ownL 9 1 encT (.slice (some ⟨bw, 0, none⟩) 2 d2) [x, y]] := hS
          (conv => whnf)
          refine hS.laX 0 rfl rfl ?_
          repeat' ((conv => whnf); first | refine RetC.mk ?_ | refine NzC.mk (by decide) ?_ | refine RngC.mk (by omega) (by omega) ?_ | refine IdxC.mk (by omega) (by omega) ?_ | refine brD (fun _ => ?_) (fun _ => ?_) | refine brND (fun _ => ?_) (fun _ => ?_) | refine brN (fun _ => ?_) (fun _ => ?_) | refine brI (fun _ => ?_) (fun _ => ?_))
          refine ⟨⟨r, _, rfl, ?_⟩, hS.ext⟩
          rw [hg]
          by_cases h12 : 0 ≤ r.top
          · rw [if_pos ⟨by omega, h12⟩, if_pos (decide_eq_true (by omega))]
          · rw [if_neg (fun h => h12 h.2), if_neg (fun h => h12 (of_decide_eq_true h))]
        · (conv => whnf)
          refine hS.stK hK 0 rfl (Nat.le_of_ble_eq_true rfl) rfl rfl (fun w' hK hS => KeepC.mk hK ?_)
          replace hS : St w No w' [blk b2 41 (encRule r), ownL 9 1 encT (.slice (some ⟨b, 0, none⟩) 4 d) [a, b4, p, n], blk b5 41 (encRule r), ownL 9 1 encT (.slice (some ⟨bw, 0, none⟩) 2 d2) [x, y]] := hS
          (conv => whnf)
          refine hS.laX 0 rfl rfl ?_
          repeat' ((conv => whnf); first | refine RetC.mk ?_ | refine NzC.mk (by decide) ?_ | refine RngC.mk (by omega) (by omega) ?_ | refine IdxC.mk (by omega) (by omega) ?_ | refine brD (fun _ => ?_) (fun _ => ?_) | refine brND (fun _ => ?_) (fun _ => ?_) | refine brN (fun _ => ?_) (fun _ => ?_) | refine brI (fun _ => ?_) (fun _ => ?_))
          refine ⟨⟨r, _, rfl, ?_⟩, hS.ext⟩
          rw [hg, if_neg (fun h => by omega), if_neg (by simp)]
end Go.Proofs.YtgcbcagaibecbaaGreatDoor

namespace Go.Proofs.YtgcbcagaibecbaaGreatDoor
set_option maxRecDepth 20000
open Go Ev
variable [Go.Proofs.YtgcbcagaibecbaaGreatDoor.Gap.Leaps]
theorem last_eq {s : List UInt8} {x : UInt8} (hne : s ≠ []) (hx : s[s.length - 1]? = some x) : s.getLast? = some x := by
  rw [List.getLast?_eq_getElem?, hx]
theorem rrulesOf_ok (s : List UInt8) (hl : s.length ≤ 100000) (w : World) :
    CallC Tryz.prog 7 #[.string (bs s)] w fun v w' => (∃ a c, v = .tuple #[.slice a (rulesOfS s).1.length c, .agg (encF (rulesOfS s).2.1 (rulesOfS s).2.2).toArray] ∧ (ownL 41 5 encRule (.slice a (rulesOfS s).1.length c) (rulesOfS s).1).holds w' ∧ Fresh w w' (.slice a (rulesOfS s).1.length c)) ∧ Ext No w w' := by
  have hsz := bs_size s
  refine fn_intro tabOk Tryz.func7 (by kernel_rfl) rfl Tryz.ntmps7 (Nat.le_of_ble_eq_true rfl) ?_
  have hS := St.start w No
  unfold rulesOfS
  (conv => whnf)
  refine hS.new (fun b3 w' hb3 hS => ?_)
  replace hS : St w No w' [blk b3 30 (encF 0 0)] := hS
  (conv => whnf)
  refine brD (fun h1 => ?_) (fun h1 => ?_)
  · rw [if_pos (by omega)]
    repeat' ((conv => whnf); first | refine RetC.mk ?_ | refine NzC.mk (by decide) ?_ | refine RngC.mk (by omega) (by omega) ?_ | refine IdxC.mk (by omega) (by omega) ?_ | refine hS.ld 0 rfl rfl ?_ | refine hS.laX 0 rfl rfl ?_ | (refine (bare_ok 2 _).mono ?_; rintro v w' ⟨rfl, hx'⟩; replace hS := hS.no hx'; clear hx') | refine hS.st 0 rfl (Nat.le_of_ble_eq_true rfl) rfl (fun w' hS => ?_) | refine brD (fun _ => ?_) (fun _ => ?_) | refine brND (fun _ => ?_) (fun _ => ?_) | refine brN (fun _ => ?_) (fun _ => ?_) | refine brI (fun _ => ?_) (fun _ => ?_))
    exact ⟨⟨none, 0, rfl, nilR_holds _, fun g hg => by cases hg⟩, hS.ext⟩
  rw [if_neg (by omega)]
  (conv => whnf)
  refine eqS2 ?_
  (conv => whnf)
  refine brD (fun h2 => ?_) (fun h2 => ?_)
  · rw [if_pos h2]
    repeat' ((conv => whnf); first | refine RetC.mk ?_ | refine NzC.mk (by decide) ?_ | refine RngC.mk (by omega) (by omega) ?_ | refine IdxC.mk (by omega) (by omega) ?_ | refine hS.ld 0 rfl rfl ?_ | refine hS.laX 0 rfl rfl ?_ | (refine (fine_ok _).mono ?_; rintro v w' ⟨rfl, hx'⟩; replace hS := hS.no hx'; clear hx') | refine hS.st 0 rfl (Nat.le_of_ble_eq_true rfl) rfl (fun w' hS => ?_) | refine brD (fun _ => ?_) (fun _ => ?_) | refine brND (fun _ => ?_) (fun _ => ?_) | refine brN (fun _ => ?_) (fun _ => ?_) | refine brI (fun _ => ?_) (fun _ => ?_))
    exact ⟨⟨none, 0, rfl, nilR_holds _, fun g hg => by cases hg⟩, hS.ext⟩
  have h2 : ¬ s = [] := h2
  rw [if_neg h2]
  have hpos := List.length_pos_iff.2 h2
  obtain ⟨x, hx⟩ : ∃ x, s[s.length - 1]? = some x := ⟨_, List.getElem?_eq_getElem (by omega)⟩
  have hlast := last_eq h2 hx
  have htl := trimN_len s
  (conv => whnf)
  refine RngC.mk (by omega) (by omega) ?_
  (conv => whnf)
  refine idxS (j := s.length - 1) Tryz.underlying9 (by omega) hx ?_
  (conv => whnf)
  refine eqC ?_
  have hxc : ((x.toNat : Int) == 10) = decide (x = 10) := by
    rw [Bool.eq_iff_iff, beq_iff_eq, decide_eq_true_iff]
    exact ⟨fun h => UInt8.toNat_inj.1 (by show x.toNat = 10; omega), fun h => by rw [h]; rfl⟩
  rw [hxc]
  generalize hts : cutR 10 (trimN s) = ts
  (conv => whnf)
  refine brD (fun h10 => ?_) (fun h10 => ?_)
  · have hu : s.take (s.length - 1) = trimN s := by
      unfold trimN
      rw [hlast, if_pos (by rw [h10]), List.dropLast_eq_take]
    (conv => whnf)
    refine RngC.mk (by omega) (by omega) ?_
    (conv => whnf)
    refine slcTo Tryz.underlying9 (b := s.length - 1) (by omega) (by omega) hu ?_
    have hul : (trimN s).length ≤ s.length := htl
    (conv => whnf)
    refine (rcutT_ok (trimN s) 10 (by omega) _).mono ?_
    rintro v w2 ⟨⟨a0, d, rfl, ho, hf⟩, hx⟩
    replace hS := hS.madeL hx ho hf
    clear hx ho hf
    have hcl := cutR_len 10 (trimN s)
    have hmem : ∀ t ∈ cutR 10 (trimN s), t.length ≤ 100000 := fun t h => by
      have := cutR_mem_len h
      omega
    have hnn := cutR_ne 10 (trimN s)
    rw [hts] at hS hcl hmem hnn ⊢
    obtain ⟨bw, rfl⟩ := ownT_some (hS.get 1 rfl) hnn
    obtain ⟨n, hn⟩ : ∃ n, n = ts.length := ⟨_, rfl⟩
    rw [← hn] at hS ⊢
    have hS := hS.add (ownL_local (e := 41) (enc := encRule) (sz := 5) (v := .slice none 0 0) (xs := [])) (nilR_holds _) (by simp [ownL, own, Value.ownBlock]) (by simp [ownL, own, Value.ownBlock])
    (conv => whnf)
    refine loopR tabOk (fun σ w' q => ∃ (k : Nat) (a : Option Addr) (c : Nat) (rs : List RuleS), σ = [(6, .int .i64 (k : Int)), (5, .slice a k c), (4, .slice (some ⟨bw, 0, none⟩) n d), (3, .pointer (some ⟨b3, 0, none⟩))] ∧ q = n - k ∧ k ≤ n ∧ rs.length = k ∧ rulesOfL ts 0 = (rs ++ (rulesOfL (ts.drop k) k).1, (rulesOfL (ts.drop k) k).2) ∧ St w No w' [blk b3 30 (encF 0 0), ownL 9 1 encT (.slice (some ⟨bw, 0, none⟩) n d) ts, ownL 41 5 encRule (.slice a k c) rs])
      (σ' := [(6, .int .i64 ((0 : Nat) : Int)), (5, .slice none 0 0), (4, .slice (some ⟨bw, 0, none⟩) n d), (3, .pointer (some ⟨b3, 0, none⟩))]) (n := n) ⟨rfl, rfl, rfl, rfl, trivial⟩ ⟨0, none, 0, [], rfl, rfl, Nat.zero_le _, rfl, rfl, hS⟩ ?_
    clear hS
    rintro _ w1 q ⟨k, a, c, rs, rfl, rfl, hk, hrs, hi, hS⟩
    (conv => whnf)
    refine brD (fun h3 => ?_) (fun h3 => ?_)
    · have hkn : k < ts.length := by omega
      have hat := List.getElem?_eq_getElem hkn
      generalize ts[k] = t at hat
      have hst := rulesOfL_step hat
      have htl := hmem t (List.mem_of_getElem? hat)
      (conv => whnf)
      refine IdxC.mk (by omega) (by omega) ?_
      (conv => whnf)
      refine Ev.ldc (ownT_cell (hS.get 1 rfl) hat) ?_
      (conv => whnf)
      refine (rruleOf_ok t htl _).mono ?_
      rintro v w3 ⟨⟨r, kk, rfl, hr⟩, hx⟩
      replace hS := hS.no hx
      clear hx
      (conv => whnf)
      refine hS.new (fun b7 w' hb7 hS => ?_)
      (conv => whnf)
      refine hS.st 3 rfl (Nat.le_of_ble_eq_true rfl) rfl (fun w' hS => ?_)
      replace hS : St w No w' [blk b3 30 (encF 0 0), ownL 9 1 encT (.slice (some ⟨bw, 0, none⟩) n d) ts, ownL 41 5 encRule (.slice a k c) rs, blk b7 41 (encRule r)] := hS
      cases kk with
      | false =>
        rw [if_neg (by simp)] at hr
        rw [hr] at hst
        have e1 : (rulesOfL ts 0).2 = some k := by rw [hi, hst]
        rw [e1]
        (conv => whnf)
        refine hS.st 0 rfl (Nat.le_of_ble_eq_true rfl) rfl (fun w' hS => ?_)
        (conv => whnf)
        refine hS.laX 0 rfl rfl ?_
        repeat' ((conv => whnf); first | refine RetC.mk ?_ | refine NzC.mk (by decide) ?_ | refine RngC.mk (by omega) (by omega) ?_ | refine IdxC.mk (by omega) (by omega) ?_ | refine brD (fun _ => ?_) (fun _ => ?_) | refine brND (fun _ => ?_) (fun _ => ?_) | refine brN (fun _ => ?_) (fun _ => ?_) | refine brI (fun _ => ?_) (fun _ => ?_))
        exact ⟨⟨none, 0, rfl, nilR_holds _, fun g hg => by cases hg⟩, hS.ext⟩
      | true =>
        rw [if_pos rfl] at hr
        rw [hr] at hst
        dsimp only at hst
        (conv => whnf)
        refine hS.laX 3 rfl rfl ?_
        (conv => whnf)
        refine hS.lit (cs := encRule r) Tryz.underlying32 (sz := 5) (by kernel_rfl) (z := .agg (encRule noRule).toArray) (by kernel_rfl) rfl rfl (by rfl) (fun bl w' hbl hS => ?_)
        have hx : Slc w' 5 encRule (fun _ => True) (some ⟨bl, 0, none⟩) 1 [r] := Slc.of_blk codRule (hS.blk 4 rfl) rfl (by decide) (fun _ _ => trivial) rfl
        (conv => whnf)
        refine hS.appS codRule 2 Tryz.underlying32 (bytes := 32) (by kernel_rfl) (z := .agg (encRule noRule).toArray) (by kernel_rfl) rfl rfl hx (by unfold maxLen; omega) (by omega) (fun a2 c2 w' hS => ?_)
        rw [hrs] at hS ⊢
        replace hS : St w No w' [blk b3 30 (encF 0 0), ownL 9 1 encT (.slice (some ⟨bw, 0, none⟩) n d) ts, ownL 41 5 encRule (.slice a2 (k + 1) c2) (rs ++ [r]), blk b7 41 (encRule r), blk bl 41 (encRule r)] := hS
        (conv => whnf)
        refine RngC.mk (by omega) (by omega) ?_
        (conv => whnf)
        refine LoopE.mk ⟨_, [(6, .int .i64 ((k + 1 : Nat) : Int)), (5, _), (4, _), (3, _)], ?_, ⟨rfl, rfl, rfl, rfl, trivial⟩, ⟨k + 1, a2, c2, rs ++ [r], rfl, rfl, by omega, by rw [List.length_append, hrs]; rfl, by rw [hi, hst]; simp, hS.keep 3⟩⟩
        omega
    · obtain rfl : k = n := by omega
      rw [List.drop_of_length_le (by omega)] at hi
      have e1 : rulesOfL ts 0 = (rs, none) := by
        rw [hi]
        simp [rulesOfL]
      rw [e1]
      dsimp only
      have hx := ownL_slc (G := fun _ => True) codRule (hS.get 2 rfl) fun _ _ => trivial
      (conv => whnf)
      refine (rulesFault_ok hx).mono ?_
      rintro v w3 ⟨rfl, hx'⟩
      replace hS := hS.no hx'
      have hcd := fault_code rs
      generalize faultL rs = F at hS hcd ⊢
      obtain ⟨fc, fa⟩ := F
      dsimp only
      (conv => whnf)
      refine hS.new (fun b9 w' hb9 hS => ?_)
      (conv => whnf)
      refine hS.st 3 rfl (Nat.le_of_ble_eq_true rfl) rfl (fun w' hS => ?_)
      replace hS : St w No w' [blk b3 30 (encF 0 0), ownL 9 1 encT (.slice (some ⟨bw, 0, none⟩) k d) ts, ownL 41 5 encRule (.slice a k c) rs, blk b9 30 (encF fc fa)] := hS
      have hne := hS.ne 3 0 rfl rfl (by decide)
      (conv => whnf)
      refine hS.ld 3 rfl rfl ?_
      (conv => whnf)
      refine brD (fun h5 => ?_) (fun h5 => ?_)
      · rw [if_pos (by omega)]
        (conv => whnf)
        (refine drawS tabOk mixed [] ((· = b3)) [0, 1, 2] (by kernel_rfl) ?_; rintro w1 rfl; replace hS := hS.drew)
        have hK := hS.ref (· = b3)
        (conv => whnf)
        refine hS.laXF 3 rfl rfl hne ?_
        (conv => whnf)
        refine hS.stK hK 0 rfl (Nat.le_of_ble_eq_true rfl) rfl rfl (fun w' hK hS => KeepC.mk hK ?_)
        replace hS : St w No w' [blk b3 30 (encF fc fa), ownL 9 1 encT (.slice (some ⟨bw, 0, none⟩) k d) ts, ownL 41 5 encRule (.slice a k c) rs, blk b9 30 (encF fc fa)] := hS
        (conv => whnf)
        refine hS.laX 0 rfl rfl ?_
        repeat' ((conv => whnf); first | refine RetC.mk ?_ | refine NzC.mk (by decide) ?_ | refine RngC.mk (by omega) (by omega) ?_ | refine IdxC.mk (by omega) (by omega) ?_ | refine brD (fun _ => ?_) (fun _ => ?_) | refine brND (fun _ => ?_) (fun _ => ?_) | refine brN (fun _ => ?_) (fun _ => ?_) | refine brI (fun _ => ?_) (fun _ => ?_))
        exact ⟨⟨none, 0, rfl, nilR_holds _, fun g hg => by cases hg⟩, hS.ext⟩
      · obtain rfl : fc = 0 := by omega
        obtain rfl : fa = -1 := by
          dsimp only at hcd
          omega
        rw [if_neg (by omega)]
        (conv => whnf)
        (refine drawS tabOk mixed [] ((· = b3)) [0, 1, 2, 3] (by kernel_rfl) ?_; rintro w1 rfl; replace hS := hS.drew)
        have hK := hS.ref (· = b3)
        (conv => whnf)
        refine hS.laXF 3 rfl rfl hne ?_
        (conv => whnf)
        refine hS.stK hK 0 rfl (Nat.le_of_ble_eq_true rfl) rfl rfl (fun w' hK hS => KeepC.mk hK ?_)
        replace hS : St w No w' [blk b3 30 (encF 0 (-1)), ownL 9 1 encT (.slice (some ⟨bw, 0, none⟩) k d) ts, ownL 41 5 encRule (.slice a k c) rs, blk b9 30 (encF 0 (-1))] := hS
        (conv => whnf)
        refine hS.laX 0 rfl rfl ?_
        repeat' ((conv => whnf); first | refine RetC.mk ?_ | refine NzC.mk (by decide) ?_ | refine RngC.mk (by omega) (by omega) ?_ | refine IdxC.mk (by omega) (by omega) ?_ | refine brD (fun _ => ?_) (fun _ => ?_) | refine brND (fun _ => ?_) (fun _ => ?_) | refine brN (fun _ => ?_) (fun _ => ?_) | refine brI (fun _ => ?_) (fun _ => ?_))
        rw [← hrs]
        exact ⟨⟨a, c, rfl, by rw [hrs]; exact hS.get 2 rfl, by rw [hrs]; exact hS.freshAt 2 rfl⟩, hS.ext⟩
  · have hu : trimN s = s := by
      unfold trimN
      rw [hlast, if_neg (fun e => h10 (Option.some.inj e))]
    rw [hu] at hts
    have hul : (s).length ≤ s.length := Nat.le_refl _
    (conv => whnf)
    refine (rcutT_ok (s) 10 (by omega) _).mono ?_
    rintro v w2 ⟨⟨a0, d, rfl, ho, hf⟩, hx⟩
    replace hS := hS.madeL hx ho hf
    clear hx ho hf
    have hcl := cutR_len 10 (s)
    have hmem : ∀ t ∈ cutR 10 (s), t.length ≤ 100000 := fun t h => by
      have := cutR_mem_len h
      omega
    have hnn := cutR_ne 10 (s)
    rw [hts] at hS hcl hmem hnn ⊢
    obtain ⟨bw, rfl⟩ := ownT_some (hS.get 1 rfl) hnn
    obtain ⟨n, hn⟩ : ∃ n, n = ts.length := ⟨_, rfl⟩
    rw [← hn] at hS ⊢
    have hS := hS.add (ownL_local (e := 41) (enc := encRule) (sz := 5) (v := .slice none 0 0) (xs := [])) (nilR_holds _) (by simp [ownL, own, Value.ownBlock]) (by simp [ownL, own, Value.ownBlock])
    (conv => whnf)
    refine loopR tabOk (fun σ w' q => ∃ (k : Nat) (a : Option Addr) (c : Nat) (rs : List RuleS), σ = [(6, .int .i64 (k : Int)), (5, .slice a k c), (4, .slice (some ⟨bw, 0, none⟩) n d), (3, .pointer (some ⟨b3, 0, none⟩))] ∧ q = n - k ∧ k ≤ n ∧ rs.length = k ∧ rulesOfL ts 0 = (rs ++ (rulesOfL (ts.drop k) k).1, (rulesOfL (ts.drop k) k).2) ∧ St w No w' [blk b3 30 (encF 0 0), ownL 9 1 encT (.slice (some ⟨bw, 0, none⟩) n d) ts, ownL 41 5 encRule (.slice a k c) rs])
      (σ' := [(6, .int .i64 ((0 : Nat) : Int)), (5, .slice none 0 0), (4, .slice (some ⟨bw, 0, none⟩) n d), (3, .pointer (some ⟨b3, 0, none⟩))]) (n := n) ⟨rfl, rfl, rfl, rfl, trivial⟩ ⟨0, none, 0, [], rfl, rfl, Nat.zero_le _, rfl, rfl, hS⟩ ?_
    clear hS
    rintro _ w1 q ⟨k, a, c, rs, rfl, rfl, hk, hrs, hi, hS⟩
    (conv => whnf)
    refine brD (fun h3 => ?_) (fun h3 => ?_)
    · have hkn : k < ts.length := by omega
      have hat := List.getElem?_eq_getElem hkn
      generalize ts[k] = t at hat
      have hst := rulesOfL_step hat
      have htl := hmem t (List.mem_of_getElem? hat)
      (conv => whnf)
      refine IdxC.mk (by omega) (by omega) ?_
      (conv => whnf)
      refine Ev.ldc (ownT_cell (hS.get 1 rfl) hat) ?_
      (conv => whnf)
      refine (rruleOf_ok t htl _).mono ?_
      rintro v w3 ⟨⟨r, kk, rfl, hr⟩, hx⟩
      replace hS := hS.no hx
      clear hx
      (conv => whnf)
      refine hS.new (fun b7 w' hb7 hS => ?_)
      (conv => whnf)
      refine hS.st 3 rfl (Nat.le_of_ble_eq_true rfl) rfl (fun w' hS => ?_)
      replace hS : St w No w' [blk b3 30 (encF 0 0), ownL 9 1 encT (.slice (some ⟨bw, 0, none⟩) n d) ts, ownL 41 5 encRule (.slice a k c) rs, blk b7 41 (encRule r)] := hS
      cases kk with
      | false =>
        rw [if_neg (by simp)] at hr
        rw [hr] at hst
        have e1 : (rulesOfL ts 0).2 = some k := by rw [hi, hst]
        rw [e1]
        (conv => whnf)
        refine hS.st 0 rfl (Nat.le_of_ble_eq_true rfl) rfl (fun w' hS => ?_)
        (conv => whnf)
        refine hS.laX 0 rfl rfl ?_
        repeat' ((conv => whnf); first | refine RetC.mk ?_ | refine NzC.mk (by decide) ?_ | refine RngC.mk (by omega) (by omega) ?_ | refine IdxC.mk (by omega) (by omega) ?_ | refine brD (fun _ => ?_) (fun _ => ?_) | refine brND (fun _ => ?_) (fun _ => ?_) | refine brN (fun _ => ?_) (fun _ => ?_) | refine brI (fun _ => ?_) (fun _ => ?_))
        exact ⟨⟨none, 0, rfl, nilR_holds _, fun g hg => by cases hg⟩, hS.ext⟩
      | true =>
        rw [if_pos rfl] at hr
        rw [hr] at hst
        dsimp only at hst
        (conv => whnf)
        refine hS.laX 3 rfl rfl ?_
        (conv => whnf)
        refine hS.lit (cs := encRule r) Tryz.underlying32 (sz := 5) (by kernel_rfl) (z := .agg (encRule noRule).toArray) (by kernel_rfl) rfl rfl (by rfl) (fun bl w' hbl hS => ?_)
        have hx : Slc w' 5 encRule (fun _ => True) (some ⟨bl, 0, none⟩) 1 [r] := Slc.of_blk codRule (hS.blk 4 rfl) rfl (by decide) (fun _ _ => trivial) rfl
        (conv => whnf)
        refine hS.appS codRule 2 Tryz.underlying32 (bytes := 32) (by kernel_rfl) (z := .agg (encRule noRule).toArray) (by kernel_rfl) rfl rfl hx (by unfold maxLen; omega) (by omega) (fun a2 c2 w' hS => ?_)
        rw [hrs] at hS ⊢
        replace hS : St w No w' [blk b3 30 (encF 0 0), ownL 9 1 encT (.slice (some ⟨bw, 0, none⟩) n d) ts, ownL 41 5 encRule (.slice a2 (k + 1) c2) (rs ++ [r]), blk b7 41 (encRule r), blk bl 41 (encRule r)] := hS
        (conv => whnf)
        refine RngC.mk (by omega) (by omega) ?_
        (conv => whnf)
        refine LoopE.mk ⟨_, [(6, .int .i64 ((k + 1 : Nat) : Int)), (5, _), (4, _), (3, _)], ?_, ⟨rfl, rfl, rfl, rfl, trivial⟩, ⟨k + 1, a2, c2, rs ++ [r], rfl, rfl, by omega, by rw [List.length_append, hrs]; rfl, by rw [hi, hst]; simp, hS.keep 3⟩⟩
        omega
    · obtain rfl : k = n := by omega
      rw [List.drop_of_length_le (by omega)] at hi
      have e1 : rulesOfL ts 0 = (rs, none) := by
        rw [hi]
        simp [rulesOfL]
      rw [e1]
      dsimp only
      have hx := ownL_slc (G := fun _ => True) codRule (hS.get 2 rfl) fun _ _ => trivial
      (conv => whnf)
      refine (rulesFault_ok hx).mono ?_
      rintro v w3 ⟨rfl, hx'⟩
      replace hS := hS.no hx'
      have hcd := fault_code rs
      generalize faultL rs = F at hS hcd ⊢
      obtain ⟨fc, fa⟩ := F
      dsimp only
      (conv => whnf)
      refine hS.new (fun b9 w' hb9 hS => ?_)
      (conv => whnf)
      refine hS.st 3 rfl (Nat.le_of_ble_eq_true rfl) rfl (fun w' hS => ?_)
      replace hS : St w No w' [blk b3 30 (encF 0 0), ownL 9 1 encT (.slice (some ⟨bw, 0, none⟩) k d) ts, ownL 41 5 encRule (.slice a k c) rs, blk b9 30 (encF fc fa)] := hS
      have hne := hS.ne 3 0 rfl rfl (by decide)
      (conv => whnf)
      refine hS.ld 3 rfl rfl ?_
      (conv => whnf)
      refine brD (fun h5 => ?_) (fun h5 => ?_)
      · rw [if_pos (by omega)]
        (conv => whnf)
        (refine drawS tabOk mixed [] ((· = b3)) [0, 1, 2] (by kernel_rfl) ?_; rintro w1 rfl; replace hS := hS.drew)
        have hK := hS.ref (· = b3)
        (conv => whnf)
        refine hS.laXF 3 rfl rfl hne ?_
        (conv => whnf)
        refine hS.stK hK 0 rfl (Nat.le_of_ble_eq_true rfl) rfl rfl (fun w' hK hS => KeepC.mk hK ?_)
        replace hS : St w No w' [blk b3 30 (encF fc fa), ownL 9 1 encT (.slice (some ⟨bw, 0, none⟩) k d) ts, ownL 41 5 encRule (.slice a k c) rs, blk b9 30 (encF fc fa)] := hS
        (conv => whnf)
        refine hS.laX 0 rfl rfl ?_
        repeat' ((conv => whnf); first | refine RetC.mk ?_ | refine NzC.mk (by decide) ?_ | refine RngC.mk (by omega) (by omega) ?_ | refine IdxC.mk (by omega) (by omega) ?_ | refine brD (fun _ => ?_) (fun _ => ?_) | refine brND (fun _ => ?_) (fun _ => ?_) | refine brN (fun _ => ?_) (fun _ => ?_) | refine brI (fun _ => ?_) (fun _ => ?_))
        exact ⟨⟨none, 0, rfl, nilR_holds _, fun g hg => by cases hg⟩, hS.ext⟩
      · obtain rfl : fc = 0 := by omega
        obtain rfl : fa = -1 := by
          dsimp only at hcd
          omega
        rw [if_neg (by omega)]
        (conv => whnf)
        (refine drawS tabOk mixed [] ((· = b3)) [0, 1, 2, 3] (by kernel_rfl) ?_; rintro w1 rfl; replace hS := hS.drew)
        have hK := hS.ref (· = b3)
        (conv => whnf)
        refine hS.laXF 3 rfl rfl hne ?_
        (conv => whnf)
        refine hS.stK hK 0 rfl (Nat.le_of_ble_eq_true rfl) rfl rfl (fun w' hK hS => KeepC.mk hK ?_)
        replace hS : St w No w' [blk b3 30 (encF 0 (-1)), ownL 9 1 encT (.slice (some ⟨bw, 0, none⟩) k d) ts, ownL 41 5 encRule (.slice a k c) rs, blk b9 30 (encF 0 (-1))] := hS
        (conv => whnf)
        refine hS.laX 0 rfl rfl ?_
        repeat' ((conv => whnf); first | refine RetC.mk ?_ | refine NzC.mk (by decide) ?_ | refine RngC.mk (by omega) (by omega) ?_ | refine IdxC.mk (by omega) (by omega) ?_ | refine brD (fun _ => ?_) (fun _ => ?_) | refine brND (fun _ => ?_) (fun _ => ?_) | refine brN (fun _ => ?_) (fun _ => ?_) | refine brI (fun _ => ?_) (fun _ => ?_))
        rw [← hrs]
        exact ⟨⟨a, c, rfl, by rw [hrs]; exact hS.get 2 rfl, by rw [hrs]; exact hS.freshAt 2 rfl⟩, hS.ext⟩
end Go.Proofs.YtgcbcagaibecbaaGreatDoor

namespace Go.Proofs.YtgcbcagaibecbaaGreatDoor
set_option maxRecDepth 20000
open Go Ev
variable [Go.Proofs.YtgcbcagaibecbaaGreatDoor.Gap.Leaps]
def RuleS.pr (r : RuleS) : List Pr := [.bool r.allow, .bool r.out, .int r.proto, .int r.low, .int r.top]
theorem pr_rule (f g : RuleS) : (f.pr = g.pr) = (f = g) := by
  obtain ⟨a, b, c, d, e⟩ := f
  obtain ⟨a', b', c', d', e'⟩ := g
  simp [RuleS.pr]
theorem neRule {c d : RuleS} {k : Value → Prop} (hk : k (.bool (!decide (c = d)))) :
    PureC Tryz.prog (do eqGuard .neq 41 (.tmp 0) (.tmp 0) (.agg (encRule c).toArray) (.agg (encRule d).toArray); Go.binOp .neq 41 (.agg (encRule c).toArray) (.agg (encRule d).toArray)) k :=
  neS (a := c.pr) (b := d.pr) (ks := [.bool, .bool, .int, .int, .int]) (by kernel_rfl) (by kernel_rfl) (by kernel_rfl) rfl rfl (by simpa only [pr_rule] using hk)
theorem takeR_eq {α : Type} {xs ys : List α} {k : Nat} {x y : α} (hx : xs[k]? = some x) (hy : ys[k]? = some y) (hi : xs.take k = ys.take k) (h : x = y) : xs.take (k + 1) = ys.take (k + 1) := by
  rw [List.take_add_one, List.take_add_one, hi, hx, hy, h]
section
variable {w : World} {G G' : RuleS → Prop} {a b : Option Addr} {n m c d : Nat} {xs ys : List RuleS}
theorem sameRules_ok (hx : Slc w 5 encRule G a n xs) (hy : Slc w 5 encRule G' b m ys) :
    CallC Tryz.prog 10 #[.slice a n c, .slice b m d] w fun v w' => v = .bool (decide (xs = ys)) ∧ Ext No w w' := by
  have hm := hx.max
  have hl := hx.len
  have hl2 := hy.len
  refine fn_intro tabOk Tryz.func10 (by kernel_rfl) rfl Tryz.ntmps10 (Nat.le_of_ble_eq_true rfl) ?_
  have hS := St.start w No
  (conv => whnf)
  refine brND (fun h1 => ?_) (fun h1 => ?_)
  · repeat' ((conv => whnf); first | refine RetC.mk ?_ | refine NzC.mk (by decide) ?_ | refine RngC.mk (by omega) (by omega) ?_ | refine IdxC.mk (by omega) (by omega) ?_ | refine brD (fun _ => ?_) (fun _ => ?_) | refine brND (fun _ => ?_) (fun _ => ?_) | refine brN (fun _ => ?_) (fun _ => ?_) | refine brI (fun _ => ?_) (fun _ => ?_))
    refine ⟨?_, hS.ext⟩
    have : xs ≠ ys := fun e => h1 (by rw [← hl, ← hl2, e])
    simp [this]
  have hnm : n = m := by omega
  subst hnm
  (conv => whnf)
  refine loopR tabOk (fun σ w' q => ∃ k : Nat, σ = [(5, .int .i64 k), (1, .slice b n d), (0, .slice a n c)] ∧ q = n - k ∧ k ≤ n ∧ St w No w' [] ∧ xs.take k = ys.take k)
    (σ' := [(5, .int .i64 ((0 : Nat) : Int)), (1, .slice b n d), (0, .slice a n c)]) (n := n) ⟨rfl, rfl, rfl, trivial⟩ ⟨0, rfl, rfl, Nat.zero_le _, hS, rfl⟩ ?_
  clear hS
  rintro _ w1 q ⟨k, rfl, rfl, hk, hS, hi⟩
  (conv => whnf)
  refine brD (fun h3 => ?_) (fun h3 => ?_)
  · obtain ⟨b0, o0, x, hxk, _, rfl, _, hc⟩ := hx.at (k := k) (by omega)
    obtain ⟨b1, o1, y, hyk, _, rfl, _, hd⟩ := hy.at (k := k) (by omega)
    repeat' ((conv => whnf); first | refine RetC.mk ?_ | refine NzC.mk (by decide) ?_ | refine RngC.mk (by omega) (by omega) ?_ | refine IdxC.mk (by omega) (by omega) ?_ | (refine drawL tabOk mixed [] No [0, 1, 2, 3, 4, 5, 6, 7, 8] rfl (by kernel_rfl) ?_; rintro w1 rfl; replace hS := hS.drew) | refine hS.larF (l := encRule x) rfl hc id id ?_ | refine hS.larF (l := encRule y) rfl hd id id ?_ | refine neRule ?_ | refine brD (fun _ => ?_) (fun _ => ?_) | refine brND (fun _ => ?_) (fun _ => ?_) | refine brN (fun _ => ?_) (fun _ => ?_) | refine brI (fun _ => ?_) (fun _ => ?_))
    · rename_i h4
      refine ⟨?_, hS.ext⟩
      have : xs ≠ ys := fun e => h4 (by subst e; exact Option.some.inj (hxk.symm.trans hyk))
      simp [this]
    · rename_i h4
      refine LoopE.mk ⟨_, [(5, .int .i64 ((k + 1 : Nat) : Int)), (1, _), (0, _)], ?_, ⟨rfl, rfl, rfl, trivial⟩, ⟨k + 1, rfl, rfl, by omega, hS, takeR_eq hxk hyk hi h4⟩⟩
      omega
  · repeat' ((conv => whnf); first | refine RetC.mk ?_ | refine NzC.mk (by decide) ?_ | refine RngC.mk (by omega) (by omega) ?_ | refine IdxC.mk (by omega) (by omega) ?_ | refine brD (fun _ => ?_) (fun _ => ?_) | refine brND (fun _ => ?_) (fun _ => ?_) | refine brN (fun _ => ?_) (fun _ => ?_) | refine brI (fun _ => ?_) (fun _ => ?_))
    have : k = n := by omega
    subst this
    rw [List.take_of_length_le (by omega), List.take_of_length_le (by omega)] at hi
    exact ⟨by simp [hi], hS.ext⟩
end
end Go.Proofs.YtgcbcagaibecbaaGreatDoor

namespace Go.Proofs.YtgcbcagaibecbaaGreatDoor.Pool
set_option maxRecDepth 20000
open Go Go.Conc Gap Ev Go.RowKit Go.Conc.Lib
local instance : Gap.Leaps := onLeaps

theorem fault_small (l : List RuleS) : (faultL l).1 < 12 ∧ ((faultL l).1 = 0 → (faultL l).2 = -1) := by
  rcases fault_code l with ⟨h1, h2⟩ | ⟨h1, h2⟩ | ⟨h1, h2⟩ <;> omega
theorem rulesOfS_small (s : List UInt8) : (rulesOfS s).2.1 < 12 ∧ ((rulesOfS s).2.1 = 0 → (rulesOfS s).2.2 = -1) := by
  unfold rulesOfS
  split
  · exact ⟨by dsimp only; omega, fun h => rfl⟩
  split
  · exact ⟨by dsimp only; omega, fun h => rfl⟩
  split
  · exact ⟨by dsimp only; omega, fun h => absurd h (by dsimp only; omega)⟩
  split
  · exact fault_small _
  · exact ⟨by dsimp only; omega, fun h => rfl⟩
theorem firstF_small : ∀ (l : List (List UInt8)) (k : Nat), (firstF l k).1 < 12 ∧ ((firstF l k).1 = 0 → (firstF l k).2 = -1)
  | [], _ => ⟨by unfold firstF; omega, fun _ => rfl⟩
  | s :: l, k => by
    unfold firstF
    split
    · exact firstF_small l (k + 1)
    · rename_i h
      exact ⟨(rulesOfS_small s).1, fun h' => absurd h' h⟩
theorem firstF_zero : ∀ (l : List (List UInt8)) (k : Nat), (firstF l k).1 = 0 → ∀ s ∈ l, (rulesOfS s).2.1 = 0
  | [], _, _, s, hs => by cases hs
  | t :: l, k, h, s, hs => by
    unfold firstF at h
    split at h
    · rename_i h0
      rcases List.mem_cons.1 hs with rfl | hs
      · exact h0
      · exact firstF_zero l (k + 1) h s hs
    · rename_i h0
      exact absurd h h0
theorem right_small (k n : Int) : rightC k n < 12 := by
  unfold rightC
  split
  · omega
  · split <;> omega
theorem readsC_small (ls : List (List UInt8)) (k : Int) : (readsC ls k).1 < 12 ∧ ((readsC ls k).1 = 0 → (readsC ls k).2 = -1) := by
  unfold readsC
  split
  · exact firstF_small ls 0
  · rename_i h
    exact ⟨right_small _ _, fun h' => absurd h' h⟩
theorem readsC_zero {ls : List (List UInt8)} {k : Int} (h : (readsC ls k).1 = 0) : ∀ s ∈ ls, (rulesOfS s).2.1 = 0 := by
  unfold readsC at h
  split at h
  · exact firstF_zero ls 0 h
  · rename_i h'
    exact absurd h h'

section
variable {w : World} {E : Nat → Addr} {q n c : Nat} {a : Option Addr} {G : List UInt8 → Prop} {ls : List (List UInt8)}
def abT : List UInt8 := [100, 101, 110, 121, 32, 105, 110, 32, 117, 100, 112, 32, 49, 45, 50, 10]
theorem abT_rules : rulesOfS abT = ([⟨false, false, 1, 1, 2⟩], 0, -1) := by kernel_rfl
theorem abreast_ok (hV : NumV w) (ht : Pow10 w) (hP : Protos w) (hE : Errs w E q [1, 2, 3]) (hh : Handle w) : CallC Tryz.prog 4 #[] w fun v w' => v = .bool true ∧ Ext No w w' := by
  have hS := St.start w No
  refine fn_intro tabOk Tryz.func4 (by kernel_rfl) rfl Tryz.ntmps4 (Nat.le_of_ble_eq_true rfl) ?_
  (conv => whnf)
  refine hS.lit (cs := [.string (bs abT)]) Tryz.underlying22 (sz := 1) (by kernel_rfl) (z := .string (bs [])) (by kernel_rfl) rfl rfl (by rfl) (fun bl w1 hbl hS => ?_)
  have hx : Slc w1 1 encT (fun _ => True) (some ⟨bl, 0, none⟩) 1 [abT] := Slc.of_blk codT (hS.blk 0 rfl) rfl (by decide) (fun _ _ => trivial) rfl
  (conv => whnf)
  refine (reads_ok (q := q) hx (fun s hs => by obtain rfl := List.mem_singleton.1 hs; decide) (hV.no hS.ext) (ht.no hS.ext) (hP.no hS.ext) (hE.ext hS.ext fun _ h => h.elim) (hh.ext hS.ext) 2).mono ?_
  have hrc : readsC [abT] 2 = (0, -1) := by
    have h1 : rightC 2 (([abT] : List (List UInt8)).length) = 0 := rfl
    unfold readsC
    rw [if_pos h1]
    unfold firstF
    rw [if_pos (by rw [abT_rules])]
    rfl
  rw [hrc]
  rintro v w2 ⟨⟨ov, ev, rfl, hf, _, h0⟩, hx2⟩
  obtain ⟨bo, rfl, xs, hxs, hat⟩ := h0 rfl
  obtain ⟨x, ax, cx, hx0, hxv, hxr⟩ := hat 0 abT rfl
  rw [abT_rules] at hxv hxr
  obtain rfl : ev = .nilIface := by
    rcases hf with ⟨_, h⟩ | ⟨_, h, _⟩
    · exact h
    · cases h
  replace hx2 := hS.ext.trans hx2
  obtain ⟨b0, o0, x', hx0', _, hb0, _, hc⟩ := hxs.at (k := 0) (by omega)
  obtain rfl := Option.some.inj (hx0.symm.trans hx0')
  injection hb0 with hb0
  injection hb0 with e1 e2
  subst e1 e2
  obtain ⟨b1, o1, r, hr, _, rfl, _, hcr⟩ := hxr.at (k := 0) (by decide)
  obtain rfl : r = ⟨false, false, 1, 1, 2⟩ := by
    have := hr
    simp at this
    exact this.symm
  have hcell := hc 0 _ rfl
  rw [hxv] at hcell
  (conv => whnf)
  refine IdxC.mk (by omega) (by omega) ?_
  (conv => whnf)
  refine ldc hcell ?_
  (conv => whnf)
  refine IdxC.mk (by omega) (by omega) ?_
  (conv => whnf)
  refine ldc hcell ?_
  (conv => whnf)
  refine IdxC.mk (by decide) (by decide) ?_
  (conv => whnf)
  refine ldc (hcr 4 _ rfl) ?_
  repeat' ((conv => whnf); first | refine RetC.mk ?_ | refine NzC.mk (by decide) ?_ | refine RngC.mk (by omega) (by omega) ?_ | refine IdxC.mk (by omega) (by omega) ?_ | refine brD (fun _ => ?_) (fun _ => ?_) | refine brND (fun _ => ?_) (fun _ => ?_) | refine brN (fun _ => ?_) (fun _ => ?_) | refine brI (fun _ => ?_) (fun _ => ?_))
  exact ⟨rfl, hx2⟩
theorem workersFault_ok (k n : Int) (w : World) : CallC Tryz.prog 6 #[.int .i64 k, .int .i64 n] w fun v w' => v = .agg (encF (rightC k n) (-1)).toArray ∧ Ext No w w' := by
  have hS := St.start w No
  unfold rightC
  refine fn_intro tabOk Tryz.func6 (by kernel_rfl) rfl Tryz.ntmps6 (Nat.le_of_ble_eq_true rfl) ?_
  (conv => whnf)
  refine hS.new (fun b w' hb hS => ?_)
  repeat' ((conv => whnf); first | refine RetC.mk ?_ | refine NzC.mk (by decide) ?_ | refine RngC.mk (by omega) (by omega) ?_ | refine IdxC.mk (by omega) (by omega) ?_ | (refine (bare_ok 3 _).mono ?_; rintro v w' ⟨rfl, hx'⟩; replace hS := hS.no hx'; clear hx') | (refine (bare_ok 2 _).mono ?_; rintro v w' ⟨rfl, hx'⟩; replace hS := hS.no hx'; clear hx') | (refine (fine_ok _).mono ?_; rintro v w' ⟨rfl, hx'⟩; replace hS := hS.no hx'; clear hx') | refine hS.st 0 rfl (Nat.le_of_ble_eq_true rfl) rfl (fun w' hS => ?_) | refine hS.laX 0 rfl rfl ?_ | refine brD (fun _ => ?_) (fun _ => ?_) | refine brND (fun _ => ?_) (fun _ => ?_) | refine brN (fun _ => ?_) (fun _ => ?_) | refine brI (fun _ => ?_) (fun _ => ?_))
  · rw [if_pos (by omega)]
    exact ⟨rfl, hS.ext⟩
  · rw [if_pos (by omega)]
    exact ⟨rfl, hS.ext⟩
  · rw [if_neg (by omega), if_pos (by omega)]
    exact ⟨rfl, hS.ext⟩
  · rw [if_neg (by omega), if_neg (by omega)]
    exact ⟨rfl, hS.ext⟩
end
end Go.Proofs.YtgcbcagaibecbaaGreatDoor.Pool
