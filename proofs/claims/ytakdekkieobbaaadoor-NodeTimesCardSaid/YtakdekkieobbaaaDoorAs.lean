
/-
  errors.As, errors.Is and plain.Code, walked at the program's own errors.
-/
import Derived.Test.YtakdekkieobbaaaDoorCode
import Derived.Stop.Asserts
namespace Go.Proofs.YtakdekkieobbaaaDoor
open Go Ev Go.Extern

/-- errors' own variable, the handle of the type 'error'. -/
def Handle (w : World) : Prop := w.cell? ⟨11, 0, none⟩ = some (rt 32)
theorem Handle.ext {w w' : World} (h : Handle w) (hx : Ext No w w') : Handle w' := hx.cell h fun h => h

theorem Ev.St.pushed {w0 w : World} {S : Nat → Prop} {H : List Ent} (h : St w0 S w H) (t : TypeId) (cs : List Value) : St w0 S (pushBlk w t cs) (H ++ [Ev.blk w.heap.size t cs]) := by
  refine h.made (Ext.push _ _ _ _) (blk_local _ _ _) (show (w.heap.push _)[w.heap.size]? = _ by rw [Array.getElem?_push, if_pos rfl]) ?_
  intro b hb
  obtain rfl : b = w.heap.size := by simpa [Ev.blk] using hb
  simp [pushBlk]

theorem ta_as (a : Addr) (w : World) : (Instr.typeAssert (.iface 98 (.pointer (some a))) 32 187 true).run Tryd.prog w = .ok (.tuple #[.nilIface, .bool false]) w := run_typeAssert_lacksB Tryd.underlying187 (by kernel_rfl) (by kernel_rfl) _ _ w
theorem ta_un (a : Addr) (w : World) : (Instr.typeAssert (.iface 98 (.pointer (some a))) 32 190 true).run Tryd.prog w = .ok (.tuple #[.nilIface, .bool false]) w := run_typeAssert_lacksB Tryd.underlying190 (by kernel_rfl) (by kernel_rfl) _ _ w
theorem ta_uns (a : Addr) (w : World) : (Instr.typeAssert (.iface 98 (.pointer (some a))) 32 192 true).run Tryd.prog w = .ok (.tuple #[.nilIface, .bool false]) w := run_typeAssert_lacksB Tryd.underlying192 (by kernel_rfl) (by kernel_rfl) _ _ w
theorem ta_is (a : Addr) (w : World) : (Instr.typeAssert (.iface 98 (.pointer (some a))) 32 194 true).run Tryd.prog w = .ok (.tuple #[.nilIface, .bool false]) w := run_typeAssert_lacksB Tryd.underlying194 (by kernel_rfl) (by kernel_rfl) _ _ w

/-- errors.as: no error of this package's own is a Fault. -/
theorem as_miss (e p q : Addr) (w : World) : CallC Tryd.prog 71 #[.iface 98 (.pointer (some e)), .iface 96 (.pointer (some p)), .agg (rvl 96 q).toArray, rt 53] w fun v w' => v = .bool false ∧ Ext No w w' := by
  refine fn_intro tabOk Tryd.func71 (by kernel_rfl) rfl Tryd.ntmps71 (Nat.le_of_ble_eq_true rfl) ?_
  have hS := St.start w No
  (conv => whnf)
  refine hS.new (fun b w' hb hS => ?_)
  (conv => whnf)
  refine loopR tabOk (fun σ w' n => σ = [(3, rt 53), (0, .iface 98 (.pointer (some e)))] ∧ Ext No w w')
    (σ' := [(3, rt 53), (0, .iface 98 (.pointer (some e)))]) (n := 0) ⟨rfl, rfl, trivial⟩ ⟨rfl, hS.ext⟩ ?_
  clear hS
  rintro _ w1 n ⟨rfl, hx⟩
  (conv => whnf)
  refine CallC.extern (x_typeOf e w1) ?_
  (conv => whnf)
  refine ⟨_, _, m_assign _ _, CallC.extern (x_assign w1) ?_⟩
  (conv => whnf)
  refine ⟨_, _, ta_as e w1, ?_⟩
  (conv => whnf)
  refine ⟨_, _, ta_un e w1, ?_⟩
  (conv => whnf)
  refine ⟨_, _, ta_uns e w1, ?_⟩
  repeat' ((conv => whnf); first | refine RetC.mk ?_ | refine NzC.mk (by decide) ?_ | refine RngC.mk (by omega) (by omega) ?_ | refine IdxC.mk (by omega) (by omega) ?_ | refine brD (fun _ => ?_) (fun _ => ?_) | refine brND (fun _ => ?_) (fun _ => ?_) | refine brN (fun _ => ?_) (fun _ => ?_) | refine brI (fun _ => ?_) (fun _ => ?_))
  exact ⟨rfl, hx⟩

theorem errorsAs_miss (e p : Addr) (w : World) (hh : Handle w) : CallC Tryd.prog 43 #[.iface 98 (.pointer (some e)), .iface 96 (.pointer (some p))] w fun v w' => v = .bool false ∧ Ext No w w' := by
  refine fn_intro tabOk Tryd.func43 (by kernel_rfl) rfl Tryd.ntmps43 (Nat.le_of_ble_eq_true rfl) ?_
  have hS := St.start w No
  (conv => whnf)
  refine CallC.extern (x_valueOf p w) ?_
  replace hS := hS.pushed 96 [.pointer (some p)]
  have hb := (hS.blk 0 rfl).cell 0
  have hbl := (hS.blk 0 rfl).lt
  generalize pushBlk w 96 [.pointer (some p)] = w1 at hS hb hbl
  generalize w.heap.size = b1 at hS hb hbl
  (conv => whnf)
  first | refine ZeroC.mk ⟨.agg #[.pointer none, .pointer none, .int .u64 0], by kernel_rfl, ?_⟩ | skip
  (conv => whnf)
  refine hS.new (fun b w2 hb2 hS => ?_)
  (conv => whnf)
  refine hS.st 1 rfl (Nat.le_of_ble_eq_true rfl) rfl (fun w3 hS => ?_)
  (conv => whnf)
  refine hS.la 1 rfl (l := rvl 96 ⟨b1, 0, none⟩) rfl rfl ?_
  (conv => whnf)
  refine CallC.extern (x_type _ w3) ?_
  (conv => whnf)
  refine ⟨_, _, m_kind _ _, CallC.extern (x_kind1 w3) ?_⟩
  (conv => whnf)
  refine PureC.of (fun w => rfl) ?_
  (conv => whnf)
  refine hS.la 1 rfl (l := rvl 96 ⟨b1, 0, none⟩) rfl rfl ?_
  (conv => whnf)
  refine CallC.extern (x_isNil _ p w3 ((hS.blk 0 rfl).cell 0)) ?_
  (conv => whnf)
  refine ⟨_, _, m_elem _ _, CallC.extern (x_elem w3) ?_⟩
  (conv => whnf)
  refine ⟨_, _, m_kind _ _, CallC.extern (x_kind2 w3) ?_⟩
  (conv => whnf)
  refine PureC.of (fun w => rfl) ?_
  (conv => whnf)
  refine hS.ldr hh id ?_
  (conv => whnf)
  refine ⟨_, _, m_impl _ _, CallC.extern (x_impl w3) ?_⟩
  (conv => whnf)
  refine hS.la 1 rfl (l := rvl 96 ⟨b1, 0, none⟩) rfl rfl ?_
  (conv => whnf)
  refine (as_miss e p _ w3).mono ?_
  rintro v w' ⟨rfl, hx⟩
  repeat' ((conv => whnf); first | refine RetC.mk ?_ | refine NzC.mk (by decide) ?_ | refine RngC.mk (by omega) (by omega) ?_ | refine IdxC.mk (by omega) (by omega) ?_ | refine brD (fun _ => ?_) (fun _ => ?_) | refine brND (fun _ => ?_) (fun _ => ?_) | refine brN (fun _ => ?_) (fun _ => ?_) | refine brI (fun _ => ?_) (fun _ => ?_))
  exact ⟨rfl, (hS.no hx).ext⟩

/-- errors.is, one round. -/
theorem is_eq {E : Nat → Addr} {n : Nat} {ks : List Nat} (j k : Nat) (w : World) (hE : Errs w E n ks) (hj : ks.contains j = true) (hk : ks.contains k = true) :
    CallC Tryd.prog 73 #[.iface 98 (.pointer (some (E j))), .iface 98 (.pointer (some (E k))), .bool true] w fun v w' => v = .bool (Nat.beq j k) ∧ Ext No w w' := by
  refine fn_intro tabOk Tryd.func73 (by kernel_rfl) rfl Tryd.ntmps73 (Nat.le_of_ble_eq_true rfl) ?_
  have hS := St.start w No
  (conv => whnf)
  refine loopR tabOk (fun σ w' n => σ = [(2, .bool true), (1, .iface 98 (.pointer (some (E k)))), (0, .iface 98 (.pointer (some (E j))))] ∧ w = w')
    (σ' := [(2, .bool true), (1, .iface 98 (.pointer (some (E k)))), (0, .iface 98 (.pointer (some (E j))))]) (n := 0) ⟨rfl, rfl, rfl, trivial⟩ ⟨rfl, rfl⟩ ?_
  clear hS
  rintro _ w1 n ⟨rfl, rfl⟩
  (conv => whnf)
  obtain ⟨i1, hi1, hcmp⟩ := Option.map_eq_some_iff.1 (show (Tryd.prog.info? 98).map (·.comparable) = some true by kernel_rfl)
  obtain ⟨i2, hi2, hsz⟩ := Option.map_eq_some_iff.1 (show (Tryd.prog.info? 100).map (·.size) = some 1 by kernel_rfl)
  by_cases h : j = k
  · subst h
    refine ⟨_, run_eql_iface_ptr_same w (E j) Tryd.underlying32 Tryd.underlying98 hi1 hcmp hi2, ?_⟩
    repeat' ((conv => whnf); first | refine RetC.mk ?_ | refine NzC.mk (by decide) ?_ | refine RngC.mk (by omega) (by omega) ?_ | refine IdxC.mk (by omega) (by omega) ?_ | refine brD (fun _ => ?_) (fun _ => ?_) | refine brND (fun _ => ?_) (fun _ => ?_) | refine brN (fun _ => ?_) (fun _ => ?_) | refine brI (fun _ => ?_) (fun _ => ?_))
    exact ⟨by rw [Nat.beq_refl], Ext.refl _ _⟩
  · obtain ⟨⟨c1, t1, h1⟩, _⟩ := hE.row j hj
    obtain ⟨⟨c2, t2, h2⟩, _⟩ := hE.row k hk
    refine ⟨_, run_eql_iface_ptr_other w Tryd.underlying32 Tryd.underlying98 hi1 hcmp hi2 (by rw [hsz]; decide) (hE.inj j k hj hk h) h1 h2, ?_⟩
    (conv => whnf)
    refine ⟨_, _, ta_is _ w, ?_⟩
    (conv => whnf)
    refine ⟨_, _, ta_un _ w, ?_⟩
    (conv => whnf)
    refine ⟨_, _, ta_uns _ w, ?_⟩
    repeat' ((conv => whnf); first | refine RetC.mk ?_ | refine NzC.mk (by decide) ?_ | refine RngC.mk (by omega) (by omega) ?_ | refine IdxC.mk (by omega) (by omega) ?_ | refine brD (fun _ => ?_) (fun _ => ?_) | refine brND (fun _ => ?_) (fun _ => ?_) | refine brN (fun _ => ?_) (fun _ => ?_) | refine brI (fun _ => ?_) (fun _ => ?_))
    exact ⟨by rw [show Nat.beq j k = false by cases hb : Nat.beq j k with | false => rfl | true => exact absurd (Nat.eq_of_beq_eq_true hb) h], Ext.refl _ _⟩

theorem errorsIs_eq {E : Nat → Addr} {n : Nat} {ks : List Nat} (j k : Nat) (w : World) (hE : Errs w E n ks) (hj : ks.contains j = true) (hk : ks.contains k = true) :
    CallC Tryd.prog 44 #[.iface 98 (.pointer (some (E j))), .iface 98 (.pointer (some (E k)))] w fun v w' => v = .bool (Nat.beq j k) ∧ Ext No w w' := by
  refine fn_intro tabOk Tryd.func44 (by kernel_rfl) rfl Tryd.ntmps44 (Nat.le_of_ble_eq_true rfl) ?_
  (conv => whnf)
  refine CallC.extern (x_typeOf (E k) w) ?_
  (conv => whnf)
  refine ⟨_, _, m_comp _ _, CallC.extern (x_comp w) ?_⟩
  (conv => whnf)
  refine (is_eq j k w hE hj hk).mono ?_
  rintro v w' ⟨rfl, hx⟩
  repeat' ((conv => whnf); first | refine RetC.mk ?_ | refine NzC.mk (by decide) ?_ | refine RngC.mk (by omega) (by omega) ?_ | refine IdxC.mk (by omega) (by omega) ?_ | refine brD (fun _ => ?_) (fun _ => ?_) | refine brND (fun _ => ?_) (fun _ => ?_) | refine brN (fun _ => ?_) (fun _ => ?_) | refine brI (fun _ => ?_) (fun _ => ?_))
  exact ⟨rfl, hx⟩

def allErrs : List Nat := [1, 2, 3, 4, 5, 6, 7, 8, 9, 10, 11]

theorem elem_at (E : Nat → Addr) : ∀ j : Nat, j < 11 → ([1, 2, 3, 4, 5, 6, 7, 8, 9, 10, 11].map fun k => Value.iface 98 (.pointer (some (E k))))[0 + ((j : Int)).toNat * 1]? = some (.iface 98 (.pointer (some (E (j + 1))))) := by
  intro j hj
  match j, hj with
  | 0, _ | 1, _ | 2, _ | 3, _ | 4, _ | 5, _ | 6, _ | 7, _ | 8, _ | 9, _ | 10, _ => rfl
  | n + 11, h => omega

theorem Ev.LoopC.of {P : Program} {τ : Tab} {N : Nat} {c : Code} {Q : Exit → Slots → World → Prop} {σ : Slots} {w : World} (h : LoopC P τ N c Q σ w) : LoopC P τ N c Q σ w := h

/-- plain.Code of one of the program's own errors, or nil. -/
theorem code_ok {E : Nat → Addr} {n : Nat} (k : Nat) (hk : k < 12) (w : World) (hE : Errs w E n allErrs) (hh : Handle w) :
    CallC Tryd.prog 22 #[errV E k] w fun v w' => v = .tuple #[.int .i64 k, .int .i64 (-1)] ∧ Ext No w w' := by
  cases k with
  | zero =>
    refine fn_intro tabOk Tryd.func22 (by kernel_rfl) rfl Tryd.ntmps22 (Nat.le_of_ble_eq_true rfl) ?_
    repeat' ((conv => whnf); first | refine RetC.mk ?_ | refine NzC.mk (by decide) ?_ | refine RngC.mk (by omega) (by omega) ?_ | refine IdxC.mk (by omega) (by omega) ?_ | refine brD (fun _ => ?_) (fun _ => ?_) | refine brND (fun _ => ?_) (fun _ => ?_) | refine brN (fun _ => ?_) (fun _ => ?_) | refine brI (fun _ => ?_) (fun _ => ?_))
    exact ⟨rfl, Ext.refl _ _⟩
  | succ k =>
    have hin : ∀ j, j < 11 → allErrs.contains (j + 1) = true := by
      intro j hj
      match j, hj with
      | 0, _ | 1, _ | 2, _ | 3, _ | 4, _ | 5, _ | 6, _ | 7, _ | 8, _ | 9, _ | 10, _ => rfl
      | n + 11, h => omega
    refine fn_intro tabOk Tryd.func22 (by kernel_rfl) rfl Tryd.ntmps22 (Nat.le_of_ble_eq_true rfl) ?_
    have hS := St.start w No
    (conv => whnf)
    refine hS.new (fun b w2 hb2 hS => ?_)
    (conv => whnf)
    refine (errorsAs_miss (E (k + 1)) ⟨b, 0, none⟩ w2 (hh.ext hS.ext)).mono ?_
    rintro v w' ⟨rfl, hx⟩
    replace hS := hS.no hx
    repeat' ((conv => whnf); first | refine hS.ldr (hE.at_ 1 rfl) id ?_ | refine hS.ldr (hE.at_ 2 rfl) id ?_ | refine hS.ldr (hE.at_ 3 rfl) id ?_ | refine hS.ldr (hE.at_ 4 rfl) id ?_ | refine hS.ldr (hE.at_ 5 rfl) id ?_ | refine hS.ldr (hE.at_ 6 rfl) id ?_ | refine hS.ldr (hE.at_ 7 rfl) id ?_ | refine hS.ldr (hE.at_ 8 rfl) id ?_ | refine hS.ldr (hE.at_ 9 rfl) id ?_ | refine hS.ldr (hE.at_ 10 rfl) id ?_ | refine hS.ldr (hE.at_ 11 rfl) id ?_)
    refine hS.lit (cs := allErrs.map fun k => Value.iface 98 (.pointer (some (E k)))) Tryd.underlying50 (sz := 1) (by kernel_rfl) (z := .nilIface) (by kernel_rfl) rfl rfl (by kernel_rfl) (fun bs w4 hbs hS => ?_)
    (conv => whnf)
    refine loopR tabOk (fun σ w' n => ∃ j : Nat, σ = [(29, .int .i64 j), (28, .int .i64 11), (27, .slice (some ⟨bs, 0, none⟩) 11 11), (3, .int .i64 (-1)), (0, .iface 98 (.pointer (some (E (k + 1)))))] ∧ n = 11 - j ∧ j ≤ k ∧ St w No w' [blk b 53 [.pointer none], blk bs 32 (allErrs.map fun k => Value.iface 98 (.pointer (some (E k))))])
      (σ' := [(29, .int .i64 ((0 : Nat) : Int)), (28, .int .i64 11), (27, .slice (some ⟨bs, 0, none⟩) 11 11), (3, .int .i64 (-1)), (0, .iface 98 (.pointer (some (E (k + 1)))))]) (n := 11) ⟨rfl, rfl, rfl, rfl, rfl, trivial⟩ ⟨0, rfl, rfl, Nat.zero_le _, hS⟩ ?_
    clear hS hx
    rintro _ w1 n ⟨j, rfl, rfl, hj, hS⟩
    (conv => whnf)
    refine brD (fun h3 => ?_) (fun h3 => ?_)
    · (conv => whnf)
      refine IdxC.mk (by omega) (by omega) ?_
      (conv => whnf)
      refine hS.ld 1 rfl (elem_at E j (by omega)) ?_
      (conv => whnf)
      refine (errorsIs_eq (k + 1) (j + 1) w1 (hE.ext hS.ext (fun _ h => h.elim)) (hin k (by omega)) (hin j (by omega))).mono ?_
      rintro v w' ⟨rfl, hx⟩
      replace hS := hS.no hx
      (conv => whnf)
      refine brI (fun h4 => ?_) (fun h4 => ?_)
      · have : k + 1 = j + 1 := Nat.eq_of_beq_eq_true h4
        obtain rfl : k = j := by omega
        (conv => whnf)
        refine RngC.mk (by omega) (by omega) ?_
        (conv => whnf)
        exact ⟨⟨rfl, hS.ext⟩⟩
      · have : k + 1 ≠ j + 1 := Nat.ne_of_beq_eq_false h4
        (conv => whnf)
        refine RngC.mk (by omega) (by omega) ?_
        (conv => whnf)
        exact LoopE.mk ⟨_, [(29, .int .i64 ((j + 1 : Nat) : Int)), (28, _), (27, _), (3, _), (0, _)], by omega, ⟨rfl, rfl, rfl, rfl, rfl, trivial⟩, ⟨j + 1, rfl, rfl, by omega, hS⟩⟩
    · exfalso; omega

theorem coded1_ok {E : Nat → Addr} {n : Nat} (k : Nat) (c : Int) (hk : k < 12) (w : World) (hE : Errs w E n allErrs) (hh : Handle w) :
    CallC Tryd.prog 23 #[errV E k, .int .i64 c] w fun v w' => v = .bool (decide ((k : Int) = c)) ∧ Ext No w w' := by
  refine fn_intro tabOk Tryd.func23 (by kernel_rfl) rfl Tryd.ntmps23 (Nat.le_of_ble_eq_true rfl) ?_
  (conv => whnf)
  refine (code_ok k hk w hE hh).mono ?_
  rintro v w' ⟨rfl, hx⟩
  repeat' ((conv => whnf); first | refine RetC.mk ?_ | refine NzC.mk (by decide) ?_ | refine RngC.mk (by omega) (by omega) ?_ | refine IdxC.mk (by omega) (by omega) ?_ | refine brD (fun _ => ?_) (fun _ => ?_) | refine brND (fun _ => ?_) (fun _ => ?_) | refine brN (fun _ => ?_) (fun _ => ?_) | refine brI (fun _ => ?_) (fun _ => ?_))
  all_goals refine ⟨?_, hx⟩
  all_goals simp [*]

theorem coded1_same {E : Nat → Addr} {n : Nat} (k : Nat) (hk : k < 12) (w : World) (hE : Errs w E n allErrs) (hh : Handle w) :
    CallC Tryd.prog 23 #[errV E k, .int .i64 k] w fun v w' => v = .bool true ∧ Ext No w w' := by
  have h := coded1_ok k k hk w hE hh
  rwa [decide_eq_true rfl] at h
/-- What the row says of the handle of 'error'. -/
theorem handle_of {L : List (String × DataW Unit)} {W : World} (hl : laidMetH Tryd.prog L W) (hm : ("errors.errorType", .iface "internal/reflectlite.rtype" (.agg [.ptr (.lit (.string [101, 114, 114, 111, 114]))])) ∈ L) : Handle W := by
  have h2 := (laidMetH_iff.1 hl).2 _ (List.mem_filter.2 ⟨hm, rfl⟩)
  obtain ⟨name, u, ty, e1, e2, e3, e4, e5⟩ := h2
  have en : name = [101, 114, 114, 111, 114] := (Option.some.inj e1).symm
  subst en
  obtain rfl := Option.some.inj ((show (Tryd.prog.cutTypes.find? (·.1 == "internal/reflectlite.rtype")).map (·.2) = some 183 by kernel_rfl).symm.trans e2)
  have hm : ty ∈ (List.range Tryd.prog.types.size).filter fun t => Tryd.prog.rowNamed t [101, 114, 114, 111, 114] := List.mem_filter.2 ⟨List.mem_range.2 e3, e4⟩
  rw [show ((List.range Tryd.prog.types.size).filter fun t => Tryd.prog.rowNamed t [101, 114, 114, 111, 114]) = [32] by kernel_rfl] at hm
  obtain rfl := List.mem_singleton.1 hm
  have hh : typeHandle Tryd.prog 32 = hv 32 := by kernel_rfl
  rw [hh] at e5
  have := World.var?_cell (show Tryd.prog.globalNamed "errors.errorType" = some 11 by kernel_rfl) e5 0
  simpa [Handle, rt] using this
end Go.Proofs.YtakdekkieobbaaaDoor
