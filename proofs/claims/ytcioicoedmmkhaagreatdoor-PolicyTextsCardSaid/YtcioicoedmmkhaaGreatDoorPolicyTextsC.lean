/-
  Texts of this claim, joined: Fault.
-/
import Derived.Test.YtcioicoedmmkhaaGreatDoorPolicyTextsB

namespace Go.Proofs.YtcioicoedmmkhaaGreatDoor
open Go Ev Go.Extern

def rvf (t : TypeId) (a : Addr) : List Value := [hv t, .pointer (some a), .int .u64 406]
theorem e_elemV : EX Tryz.prog 86 (ReflectliteValue.method (ReflectliteValue.valueError "reflectlite.Value.Elem" 0) ReflectliteValue.elem) := fun args w =>
  run_callFunc_extern (e := (ReflectliteValue.method (ReflectliteValue.valueError "reflectlite.Value.Elem" 0) ReflectliteValue.elem)) Tryz.func86 (by kernel_rfl) (by kernel_rfl) (by kernel_rfl) (by kernel_rfl) args w
theorem e_set : EX Tryz.prog 87 ReflectliteValue.set := fun args w =>
  run_callFunc_extern (e := ReflectliteValue.set) Tryz.func87 (by kernel_rfl) (by kernel_rfl) (by kernel_rfl) (by kernel_rfl) args w

theorem x_typeOfF (v : Value) (w : World) : (callFunc 73 #[.iface 87 v]).run Tryz.prog w = .ok (.value (rt 87)) w := e_typeOf.to (by kernel_rfl)
theorem x_assignF (w : World) : (callFunc 149 #[.agg #[hv 87], rt 87]).run Tryz.prog w = .ok (.value (.bool true)) w := e_assign.to (by kernel_rfl)
theorem x_valueOfF (e : Addr) (w : World) : (callFunc 69 #[.iface 87 (.pointer (some e))]).run Tryz.prog w
    = .ok (.value (.agg (rvl 87 ⟨w.heap.size, 0, none⟩).toArray)) (pushBlk w 87 [.pointer (some e)]) := e_valueOf.to (by kernel_rfl)
theorem x_elemV (a p : Addr) (w : World) (ha : w.cell? a = some (.pointer (some p))) : (callFunc 86 #[.agg (rvl 92 a).toArray]).run Tryz.prog w = .ok (.value (.agg (rvf 87 p).toArray)) w := by
  refine e_elemV.to ?_
  have hp : (ReflectliteValue.parts (.agg (rvl 92 a).toArray)).run Tryz.prog w = .ok (some (92, a, 150)) w := by kernel_rfl
  have he : ∀ w, (Rtype.elem? 92).run Tryz.prog w = .ok (some 87) w := fun w => by kernel_rfl
  have hm : ∀ w, (ReflectliteValue.mk 87 p ReflectliteValue.flagAddr).run Tryz.prog w = .ok (.agg (rvf 87 p).toArray) w := fun w => by kernel_rfl
  rw [show ReflectliteValue.method (ReflectliteValue.valueError "reflectlite.Value.Elem" 0) ReflectliteValue.elem #[.agg (rvl 92 a).toArray] = (do match ← ReflectliteValue.parts (.agg (rvl 92 a).toArray) with | none => ReflectliteValue.valueError "reflectlite.Value.Elem" 0 | some (t, a, fl) => ReflectliteValue.elem t a fl (fl % 32)) from rfl]
  simp only [Sem.run_bind, hp, Result.andThen]
  simp [ReflectliteValue.elem, loadVar, isAgg, underlying, Tryz.underlying92, ha, Result.andThen, he, hm]
theorem set_eq (v x : Value) : ReflectliteValue.set #[v, x] = (do
    let (some (dst, a, fl), some (src, b, _)) := (← ReflectliteValue.parts v, ← ReflectliteValue.parts x)
      | unsupported (.noEntry "extern/(internal/reflectlite.Value).Set.zeroValue")
    if fl / ReflectliteValue.flagAddr % 2 == 0 then unsupported (.noEntry "extern/(internal/reflectlite.Value).Set.unaddressable")
    let val ← loadVar src b
    if ← Rtype.directlyAssignable dst src then storeVar dst a val
    else if ← Rtype.implements dst src then
      if (← Rtype.kind src) == 20 then
        match val with
        | .nilIface => unsupported (.noEntry "extern/reflectlite: a nil value of one interface type handed on as a value of another")
        | _ => storeVar dst a val
      else storeVar dst a (.iface src val)
    else panicString ("reflectlite.Set: value of type " ++ (← Rtype.spelt src) ++ " is not assignable to type " ++ (← Rtype.spelt dst))
    pure (.tuple #[])) := rfl
theorem x_set (ta b e : Addr) (old : Value) (w : World) (hb : w.cell? b = some (.pointer (some e))) (ht : w.cell? ta = some old) (hf : w.frozen? ta = false) :
    (callFunc 87 #[.agg (rvf 87 ta).toArray, .agg (rvl 87 b).toArray]).run Tryz.prog w = .ok (.value (.tuple #[])) (w.setCell ta (.pointer (some e))) := by
  refine e_set.to ?_
  have h1 : (ReflectliteValue.parts (.agg (rvf 87 ta).toArray)).run Tryz.prog w = .ok (some (87, ta, 406)) w := by kernel_rfl
  have h2 : (ReflectliteValue.parts (.agg (rvl 87 b).toArray)).run Tryz.prog w = .ok (some (87, b, 150)) w := by kernel_rfl
  have hd : ∀ w, (Rtype.directlyAssignable 87 87).run Tryz.prog w = .ok true w := fun w => by kernel_rfl
  rw [set_eq]
  simp only [Sem.run_bind, h1, h2, Result.andThen]
  simp [ReflectliteValue.flagAddr, loadVar, isAgg, underlying, Tryz.underlying87, hb, Result.andThen, hd, storeVar, Value.cells, storeCells, Addr.add]
  rw [run_store Tryz.prog w ta _ _ (by rfl)]
  simp [ht, hf]

section
variable {w : World} {b : Nat}
theorem as_hit (e : Addr) (bq : Nat) (old : Value) (hq : w.cell? ⟨bq, 0, none⟩ = some (.pointer (some ⟨b, 0, none⟩))) (hne : ¬ bq = b) (hb : Blk w b 87 [old]) : CallC Tryz.prog 72 #[.iface 87 (.pointer (some e)), .iface 92 (.pointer (some ⟨b, 0, none⟩)), .agg (rvl 92 ⟨bq, 0, none⟩).toArray, rt 87] w fun v w' => v = .bool true ∧ Ext (· = b) w w' ∧ Blk w' b 87 [.pointer (some e)] := by
  refine fn_intro tabOk Tryz.func72 (by kernel_rfl) rfl Tryz.ntmps72 (Nat.le_of_ble_eq_true rfl) ?_
  have hS := (St.start w (· = b)).add (blk_local b _ _) hb (by simp [blk]; exact hb.lt) (by simp)
  (conv => whnf)
  refine hS.new (fun b6 w2 hb6 hS => ?_)
  (conv => whnf)
  refine loopR tabOk (fun σ w' n => σ = [(6, .pointer (some ⟨b6, 0, none⟩)), (3, rt 87), (0, .iface 87 (.pointer (some e)))] ∧ St w (· = b) w' [blk b 87 [old], blk b6 115 (rvl 92 ⟨bq, 0, none⟩)] ∧ w'.cell? ⟨bq, 0, none⟩ = some (.pointer (some ⟨b, 0, none⟩)))
    (σ' := [(6, .pointer (some ⟨b6, 0, none⟩)), (3, rt 87), (0, .iface 87 (.pointer (some e)))]) (n := 0) ⟨rfl, rfl, rfl, trivial⟩ ⟨rfl, hS, ?_⟩ ?_
  · exact hS.ext.cell hq hne
  clear hS
  rintro _ w1 n ⟨rfl, hS, hq1⟩
  (conv => whnf)
  refine CallC.extern (x_typeOfF _ w1) ?_
  (conv => whnf)
  refine ⟨_, _, m_assign _ _, CallC.extern (x_assignF w1) ?_⟩
  (conv => whnf)
  refine hS.laX 1 rfl rfl ?_
  (conv => whnf)
  refine CallC.extern (x_elemV ⟨bq, 0, none⟩ ⟨b, 0, none⟩ w1 hq1) ?_
  (conv => whnf)
  refine CallC.extern (x_valueOfF e w1) ?_
  replace hS := hS.pushed 87 [.pointer (some e)]
  have hv := (hS.blk 2 rfl).cell 0
  have hbb := hS.blk 0 rfl
  generalize pushBlk w1 87 [.pointer (some e)] = w3 at hS hv hbb
  generalize w1.heap.size = b3 at hS hv
  (conv => whnf)
  refine CallC.extern (x_set ⟨b, 0, none⟩ ⟨b3, 0, none⟩ e old w3 hv (by rw [hbb.cell]; rfl) (hbb.frozen 0)) ?_
  rw [setCell_eq hbb]
  replace hS := hS.upd (e' := blk b 87 [.pointer (some e)]) 0 rfl (T := (· = b)) (Ext.set (S := (· = b)) (b := b) rfl 87 _) (fun c hc => by simp [Ev.blk, hc]) (blk_local _ _ _) (setBlk_blk hbb.lt) (fun c hc => .inl hc)
  repeat' ((conv => whnf); first | refine RetC.mk ?_ | refine NzC.mk (by decide) ?_ | refine RngC.mk (by omega) (by omega) ?_ | refine IdxC.mk (by omega) (by omega) ?_ | refine brD (fun _ => ?_) (fun _ => ?_) | refine brND (fun _ => ?_) (fun _ => ?_) | refine brN (fun _ => ?_) (fun _ => ?_) | refine brI (fun _ => ?_) (fun _ => ?_))
  exact ⟨rfl, hS.ext, hS.blk 0 rfl⟩
theorem errorsAs_hit (e : Addr) (old : Value) (hh : Handle w) (hb : Blk w b 87 [old]) (hne : ¬ b = 13) : CallC Tryz.prog 53 #[.iface 87 (.pointer (some e)), .iface 92 (.pointer (some ⟨b, 0, none⟩))] w fun v w' => v = .bool true ∧ Ext (· = b) w w' ∧ Blk w' b 87 [.pointer (some e)] := by
  have p : Addr := ⟨b, 0, none⟩
  refine fn_intro tabOk Tryz.func53 (by kernel_rfl) rfl Tryz.ntmps53 (Nat.le_of_ble_eq_true rfl) ?_
  have hS := (St.start w (· = b)).add (blk_local b _ _) hb (by simp [blk]; exact hb.lt) (by simp)
  (conv => whnf)
  refine CallC.extern (x_valueOf ⟨b, 0, none⟩ w) ?_
  replace hS := hS.pushed 92 [.pointer (some ⟨b, 0, none⟩)]
  generalize pushBlk w 92 [.pointer (some ⟨b, 0, none⟩)] = w1 at hS
  generalize w.heap.size = b1 at hS
  (conv => whnf)
  first | refine ZeroC.mk ⟨.agg #[.pointer none, .pointer none, .int .u64 0], by kernel_rfl, ?_⟩ | skip
  (conv => whnf)
  refine hS.new (fun b2 w2 hb2 hS => ?_)
  (conv => whnf)
  refine hS.st 2 rfl (Nat.le_of_ble_eq_true rfl) rfl (fun w3 hS => ?_)
  (conv => whnf)
  refine hS.la 2 rfl (l := rvl 92 ⟨b1, 0, none⟩) rfl rfl ?_
  (conv => whnf)
  refine CallC.extern (x_type _ w3) ?_
  (conv => whnf)
  refine ⟨_, _, m_kind _ _, CallC.extern (x_kind1 w3) ?_⟩
  (conv => whnf)
  refine PureC.of (fun w => rfl) ?_
  (conv => whnf)
  refine hS.la 2 rfl (l := rvl 92 ⟨b1, 0, none⟩) rfl rfl ?_
  (conv => whnf)
  refine CallC.extern (x_isNil _ ⟨b, 0, none⟩ w3 ((hS.blk 1 rfl).cell 0)) ?_
  (conv => whnf)
  refine ⟨_, _, m_elem _ _, CallC.extern (x_elem w3) ?_⟩
  (conv => whnf)
  refine ⟨_, _, m_kind _ _, CallC.extern (x_kind2 w3) ?_⟩
  (conv => whnf)
  refine PureC.of (fun w => rfl) ?_
  (conv => whnf)
  refine hS.ldr hh (fun h => hne h.symm) ?_
  (conv => whnf)
  refine ⟨_, _, m_impl _ _, CallC.extern (x_impl w3) ?_⟩
  (conv => whnf)
  refine hS.la 2 rfl (l := rvl 92 ⟨b1, 0, none⟩) rfl rfl ?_
  (conv => whnf)
  refine (as_hit e b1 old ((hS.blk 1 rfl).cell 0) (fun h => hS.ne 1 0 rfl rfl (by decide) h) (hS.blk 0 rfl)).mono ?_
  rintro v w' ⟨rfl, hx, hB⟩
  replace hS := hS.upd 0 rfl hx (fun c hc => by subst hc; exact List.mem_singleton.2 rfl) (blk_local _ _ _) hB (fun c hc => .inl hc)
  repeat' ((conv => whnf); first | refine RetC.mk ?_ | refine NzC.mk (by decide) ?_ | refine RngC.mk (by omega) (by omega) ?_ | refine IdxC.mk (by omega) (by omega) ?_ | refine brD (fun _ => ?_) (fun _ => ?_) | refine brND (fun _ => ?_) (fun _ => ?_) | refine brN (fun _ => ?_) (fun _ => ?_) | refine brI (fun _ => ?_) (fun _ => ?_))
  exact ⟨rfl, hS.ext, hS.blk 0 rfl⟩

theorem taF_un (v : Value) (w : World) : (Instr.typeAssert (.iface 87 v) 28 142 true).run Tryz.prog w = .ok (.tuple #[.iface 87 v, .bool true]) w := run_typeAssert_hasB Tryz.underlying142 (by kernel_rfl) _ _ w
theorem taF_is (v : Value) (w : World) : (Instr.typeAssert (.iface 87 v) 28 146 true).run Tryz.prog w = .ok (.tuple #[.nilIface, .bool false]) w := run_typeAssert_lacksB Tryz.underlying146 (by kernel_rfl) (by kernel_rfl) _ _ w
theorem mF_un (v : Value) (w : World) : (Go.method (Tryz.prog.types.size + Made.depth) 87 v "Unwrap").run Tryz.prog w = .ok (143, v) w := by kernel_rfl
theorem unwrap_ok {f : Nat} {a e : Value} (hf : Blk w f 89 [a, e]) : CallC Tryz.prog 143 #[.pointer (some ⟨f, 0, none⟩)] w fun v w' => v = e ∧ w = w' := by
  refine fn_intro tabOk Tryz.func143 (by kernel_rfl) rfl Tryz.ntmps143 (Nat.le_of_ble_eq_true rfl) ?_
  (conv => whnf)
  refine ldc (v := e) (by rw [hf.cell]; rfl) ?_
  repeat' ((conv => whnf); first | refine RetC.mk ?_ | refine NzC.mk (by decide) ?_ | refine RngC.mk (by omega) (by omega) ?_ | refine IdxC.mk (by omega) (by omega) ?_ | refine brD (fun _ => ?_) (fun _ => ?_) | refine brND (fun _ => ?_) (fun _ => ?_) | refine brN (fun _ => ?_) (fun _ => ?_) | refine brI (fun _ => ?_) (fun _ => ?_))
  exact ⟨rfl, rfl⟩
theorem isF_eq {E : Nat → Addr} {n f : Nat} {a : Value} {ks : List Nat} (j k : Nat) (w : World) (hE : Errs w E n ks) (hj : ks.contains j = true) (hk : ks.contains k = true) (hf : Blk w f 89 [a, .iface 182 (.pointer (some (E j)))]) :
    CallC Tryz.prog 74 #[.iface 87 (.pointer (some ⟨f, 0, none⟩)), .iface 182 (.pointer (some (E k))), .bool true] w fun v w' => v = .bool (Nat.beq j k) ∧ Ext No w w' := by
  refine fn_intro tabOk Tryz.func74 (by kernel_rfl) rfl Tryz.ntmps74 (Nat.le_of_ble_eq_true rfl) ?_
  have hS := St.start w No
  (conv => whnf)
  refine loopR tabOk (fun σ w' n => (σ = [(2, .bool true), (1, .iface 182 (.pointer (some (E k)))), (0, .iface 87 (.pointer (some ⟨f, 0, none⟩)))] ∧ n = 1 ∨ σ = [(2, .bool true), (1, .iface 182 (.pointer (some (E k)))), (0, .iface 182 (.pointer (some (E j))))] ∧ n = 0) ∧ w = w')
    (σ' := [(2, .bool true), (1, .iface 182 (.pointer (some (E k)))), (0, .iface 87 (.pointer (some ⟨f, 0, none⟩)))]) (n := 1) ⟨rfl, rfl, rfl, trivial⟩ ⟨.inl ⟨rfl, rfl⟩, rfl⟩ ?_
  clear hS
  rintro _ w1 n ⟨⟨rfl, rfl⟩ | ⟨rfl, rfl⟩, rfl⟩
  · (conv => whnf)
    refine ⟨_, run_eql_iface_types _ _ _ _ Tryz.underlying28 (by decide) w, ?_⟩
    (conv => whnf)
    refine ⟨_, _, taF_is _ w, ?_⟩
    (conv => whnf)
    refine ⟨_, _, taF_un _ w, ?_⟩
    (conv => whnf)
    refine ⟨_, _, mF_un _ _, (unwrap_ok hf).mono ?_⟩
    rintro v w' ⟨rfl, rfl⟩
    (conv => whnf)
    refine LoopE.mk ⟨0, [(2, _), (1, _), (0, _)], by decide, ⟨rfl, rfl, rfl, trivial⟩, .inr ⟨rfl, rfl⟩, rfl⟩
  (conv => whnf)
  obtain ⟨i1, hi1, hcmp⟩ := Option.map_eq_some_iff.1 (show (Tryz.prog.info? 182).map (·.comparable) = some true by kernel_rfl)
  obtain ⟨i2, hi2, hsz⟩ := Option.map_eq_some_iff.1 (show (Tryz.prog.info? 184).map (·.size) = some 1 by kernel_rfl)
  by_cases h : j = k
  · subst h
    refine ⟨_, run_eql_iface_ptr_same w (E j) Tryz.underlying28 Tryz.underlying182 hi1 hcmp hi2, ?_⟩
    repeat' ((conv => whnf); first | refine RetC.mk ?_ | refine NzC.mk (by decide) ?_ | refine RngC.mk (by omega) (by omega) ?_ | refine IdxC.mk (by omega) (by omega) ?_ | refine brD (fun _ => ?_) (fun _ => ?_) | refine brND (fun _ => ?_) (fun _ => ?_) | refine brN (fun _ => ?_) (fun _ => ?_) | refine brI (fun _ => ?_) (fun _ => ?_))
    exact ⟨by rw [Nat.beq_refl], Ext.refl _ _⟩
  · obtain ⟨⟨c1, t1, h1⟩, _⟩ := hE.row j hj
    obtain ⟨⟨c2, t2, h2⟩, _⟩ := hE.row k hk
    refine ⟨_, run_eql_iface_ptr_other w Tryz.underlying28 Tryz.underlying182 hi1 hcmp hi2 (by rw [hsz]; decide) (hE.inj j k hj hk h) h1 h2, ?_⟩
    (conv => whnf)
    refine ⟨_, _, ta_is _ w, ?_⟩
    (conv => whnf)
    refine ⟨_, _, ta_un _ w, ?_⟩
    (conv => whnf)
    refine ⟨_, _, ta_uns _ w, ?_⟩
    repeat' ((conv => whnf); first | refine RetC.mk ?_ | refine NzC.mk (by decide) ?_ | refine RngC.mk (by omega) (by omega) ?_ | refine IdxC.mk (by omega) (by omega) ?_ | refine brD (fun _ => ?_) (fun _ => ?_) | refine brND (fun _ => ?_) (fun _ => ?_) | refine brN (fun _ => ?_) (fun _ => ?_) | refine brI (fun _ => ?_) (fun _ => ?_))
    exact ⟨by rw [show Nat.beq j k = false by cases hb : Nat.beq j k with | false => rfl | true => exact absurd (Nat.eq_of_beq_eq_true hb) h], Ext.refl _ _⟩
theorem errorsIsF_eq {E : Nat → Addr} {n f : Nat} {a : Value} {ks : List Nat} (j k : Nat) (w : World) (hE : Errs w E n ks) (hj : ks.contains j = true) (hk : ks.contains k = true) (hf : Blk w f 89 [a, .iface 182 (.pointer (some (E j)))]) :
    CallC Tryz.prog 54 #[.iface 87 (.pointer (some ⟨f, 0, none⟩)), .iface 182 (.pointer (some (E k)))] w fun v w' => v = .bool (Nat.beq j k) ∧ Ext No w w' := by
  refine fn_intro tabOk Tryz.func54 (by kernel_rfl) rfl Tryz.ntmps54 (Nat.le_of_ble_eq_true rfl) ?_
  (conv => whnf)
  refine CallC.extern (x_typeOf (E k) w) ?_
  (conv => whnf)
  refine ⟨_, _, m_comp _ _, CallC.extern (x_comp w) ?_⟩
  (conv => whnf)
  refine (isF_eq j k w hE hj hk hf).mono ?_
  rintro v w' ⟨rfl, hx⟩
  repeat' ((conv => whnf); first | refine RetC.mk ?_ | refine NzC.mk (by decide) ?_ | refine RngC.mk (by omega) (by omega) ?_ | refine IdxC.mk (by omega) (by omega) ?_ | refine brD (fun _ => ?_) (fun _ => ?_) | refine brND (fun _ => ?_) (fun _ => ?_) | refine brN (fun _ => ?_) (fun _ => ?_) | refine brI (fun _ => ?_) (fun _ => ?_))
  exact ⟨rfl, hx⟩
theorem codeF_ok {E : Nat → Addr} {n f : Nat} {a : Int} (k : Nat) (hk : k < 11) (w : World) (hE : Errs w E n allErrs) (hh : Handle w) (hf : Blk w f 89 [.int .i64 a, errV E (k + 1)]) :
    CallC Tryz.prog 31 #[.iface 87 (.pointer (some ⟨f, 0, none⟩))] w fun v w' => v = .tuple #[.int .i64 ((k + 1 : Nat) : Int), .int .i64 a] ∧ Ext No w w' := by
  have hin : ∀ j, j < 11 → allErrs.contains (j + 1) = true := by
    intro j hj
    match j, hj with
    | 0, _ | 1, _ | 2, _ | 3, _ | 4, _ | 5, _ | 6, _ | 7, _ | 8, _ | 9, _ | 10, _ => rfl
    | n + 11, h => omega
  have hgl : ¬ w.heap.size ≤ 13 := by
    have := cell_lt hh
    simpa using this
  refine fn_intro tabOk Tryz.func31 (by kernel_rfl) rfl Tryz.ntmps31 (Nat.le_of_ble_eq_true rfl) ?_
  have hS := St.start w No
  (conv => whnf)
  refine hS.new (fun b w2 hb2 hS => ?_)
  (conv => whnf)
  refine (errorsAs_hit ⟨f, 0, none⟩ (.pointer none) (hh.ext hS.ext) (hS.blk 0 rfl) (fun h => hgl (by omega))).mono ?_
  rintro v w' ⟨rfl, hx, hB⟩
  replace hS := hS.upd 0 rfl hx (fun c hc => by subst hc; exact List.mem_singleton.2 rfl) (blk_local _ _ _) hB (fun c hc => .inl hc)
  (conv => whnf)
  refine hS.ld 0 rfl rfl ?_
  (conv => whnf)
  refine hS.ldr (v := .int .i64 a) (by rw [hf.cell]; rfl) id ?_
  repeat' ((conv => whnf); first | refine hS.ldr (hE.at_ 1 rfl) id ?_ | refine hS.ldr (hE.at_ 2 rfl) id ?_ | refine hS.ldr (hE.at_ 3 rfl) id ?_ | refine hS.ldr (hE.at_ 4 rfl) id ?_ | refine hS.ldr (hE.at_ 5 rfl) id ?_ | refine hS.ldr (hE.at_ 6 rfl) id ?_ | refine hS.ldr (hE.at_ 7 rfl) id ?_ | refine hS.ldr (hE.at_ 8 rfl) id ?_ | refine hS.ldr (hE.at_ 9 rfl) id ?_ | refine hS.ldr (hE.at_ 10 rfl) id ?_ | refine hS.ldr (hE.at_ 11 rfl) id ?_)
  refine hS.lit (cs := allErrs.map fun k => Value.iface 182 (.pointer (some (E k)))) Tryz.underlying93 (sz := 1) (by kernel_rfl) (z := .nilIface) (by kernel_rfl) rfl rfl (by kernel_rfl) (fun bs w4 hbs hS => ?_)
  replace hS : St w No w4 [blk bs 28 (allErrs.map fun k => Value.iface 182 (.pointer (some (E k))))] := hS.sel [1] (by decide)
  (conv => whnf)
  refine loopR tabOk (fun σ w' n => ∃ j : Nat, σ = [(29, .int .i64 j), (28, .int .i64 11), (27, .slice (some ⟨bs, 0, none⟩) 11 11), (3, .int .i64 a), (0, .iface 87 (.pointer (some ⟨f, 0, none⟩)))] ∧ n = 11 - j ∧ j ≤ k ∧ St w No w' [blk bs 28 (allErrs.map fun k => Value.iface 182 (.pointer (some (E k))))])
    (σ' := [(29, .int .i64 ((0 : Nat) : Int)), (28, .int .i64 11), (27, .slice (some ⟨bs, 0, none⟩) 11 11), (3, .int .i64 a), (0, .iface 87 (.pointer (some ⟨f, 0, none⟩)))]) (n := 11) ⟨rfl, rfl, rfl, rfl, rfl, trivial⟩ ⟨0, rfl, rfl, Nat.zero_le _, hS⟩ ?_
  clear hS hx
  rintro _ w1 n ⟨j, rfl, rfl, hj, hS⟩
  (conv => whnf)
  refine brD (fun h3 => ?_) (fun h3 => ?_)
  · (conv => whnf)
    refine IdxC.mk (by omega) (by omega) ?_
    (conv => whnf)
    refine hS.ld 0 rfl (elem_at E j (by omega)) ?_
    (conv => whnf)
    refine (errorsIsF_eq (k + 1) (j + 1) w1 (hE.ext hS.ext (fun _ h => h.elim)) (hin k (by omega)) (hin j (by omega)) (hS.ext.blk hf id)).mono ?_
    rintro v w' ⟨rfl, hx⟩
    replace hS := hS.no hx
    (conv => whnf)
    refine brI (fun h4 => ?_) (fun h4 => ?_)
    · have : k + 1 = j + 1 := Nat.eq_of_beq_eq_true h4
      obtain rfl : k = j := by omega
      (conv => whnf)
      refine RngC.mk (by omega) (by omega) ?_
      (conv => whnf)
      exact ⟨⟨rfl, hS.ext⟩⟩
    · have : k + 1 ≠ j + 1 := Nat.ne_of_beq_eq_false h4
      (conv => whnf)
      refine RngC.mk (by omega) (by omega) ?_
      (conv => whnf)
      exact LoopE.mk ⟨_, [(29, .int .i64 ((j + 1 : Nat) : Int)), (28, _), (27, _), (3, _), (0, _)], by omega, ⟨rfl, rfl, rfl, rfl, rfl, trivial⟩, ⟨j + 1, rfl, rfl, by omega, hS⟩⟩
  · exfalso; omega
theorem codeV_ok {E : Nat → Addr} {n k : Nat} {a : Int} {w0 : World} {v : Value} (h : FaultV E w0 w v k a) (hk : k < 12) (hE : Errs w E n allErrs) (hh : Handle w) :
    CallC Tryz.prog 31 #[v] w fun v w' => v = .tuple #[.int .i64 (k : Int), .int .i64 a] ∧ Ext No w w' := by
  rcases h with ⟨rfl, rfl⟩ | ⟨_, h2, f, rfl, _, hf⟩
  · exact code_ok k hk w hE hh
  · obtain ⟨j, rfl⟩ : ∃ j, k = j + 1 := ⟨k - 1, by omega⟩
    exact codeF_ok j (by omega) w hE hh hf
theorem faulted1_ok {E : Nat → Addr} {n k : Nat} {a : Int} {w0 : World} {v : Value} (h : FaultV E w0 w v k a) (h0 : k = 0 → a = -1) (hk : k < 12) (hE : Errs w E n allErrs) (hh : Handle w) :
    CallC Tryz.prog 23 #[v, .agg (encF k a).toArray] w fun v w' => v = .bool true ∧ Ext No w w' := by
  refine fn_intro tabOk Tryz.func23 (by kernel_rfl) rfl Tryz.ntmps23 (Nat.le_of_ble_eq_true rfl) ?_
  have hS := St.start w No
  (conv => whnf)
  refine hS.new (fun bf w' hbf hS => ?_)
  replace hS : St w No w' [blk bf 47 (encF k a)] := hS
  (conv => whnf)
  refine (codeV_ok (h.no hS.ext) hk (hE.ext hS.ext fun _ h => h.elim) (hh.ext hS.ext)).mono ?_
  rintro v w2 ⟨rfl, hx⟩
  replace hS := hS.no hx
  repeat' ((conv => whnf); first | refine RetC.mk ?_ | refine NzC.mk (by decide) ?_ | refine RngC.mk (by omega) (by omega) ?_ | refine IdxC.mk (by omega) (by omega) ?_ | refine hS.ld 0 rfl rfl ?_ | refine hS.laX 0 rfl rfl ?_ | refine brD (fun _ => ?_) (fun _ => ?_) | refine brND (fun _ => ?_) (fun _ => ?_) | refine brN (fun _ => ?_) (fun _ => ?_) | refine brI (fun _ => ?_) (fun _ => ?_))
  all_goals first | exact ⟨rfl, hS.ext⟩ | (exfalso; rename_i h; exact h rfl) | exact ⟨by simp, hS.ext⟩
end

end Go.Proofs.YtcioicoedmmkhaaGreatDoor
