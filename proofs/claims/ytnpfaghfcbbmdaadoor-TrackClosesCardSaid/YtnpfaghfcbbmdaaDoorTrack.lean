/-
  Package track and its reference, walked.
-/
import Derived.Test.YtnpfaghfcbbmdaaDoorTab
namespace Go.Proofs.YtnpfaghfcbbmdaaDoor
open Go Ev

/-- An error by its number: nil, or what the package's variable holds. -/
def errV (E : Nat → Addr) : Nat → Value
  | 0 => .nilIface
  | k + 1 => .iface 150 (.pointer (some (E (k + 1))))

def nextS (p s f : Int) (o : Bool) : Int × Bool :=
  if p ≠ 2 then (s, false) else if band f 8 ≠ 0 then (0, true) else if band f 4 ≠ 0 then (3, false)
  else if s = 1 ∧ o = false ∧ band f 1 ≠ 0 ∧ band f 2 ≠ 0 then (2, false) else (s, false)

theorem next_ok (p s f : Int) (o : Bool) (w : World) : CallC Tryd.prog 13 #[.int .i64 p, .int .i64 s, .int .i64 f, .bool o] w fun v w' => v = .tuple #[.int .i64 (nextS p s f o).1, .bool (nextS p s f o).2] ∧ w = w' := by
  refine fn_intro tabOk Tryd.func13 (by kernel_rfl) rfl Tryd.ntmps13 (Nat.le_of_ble_eq_true rfl) ?_
  repeat' ((conv => whnf); first | refine RetC.mk ?_ | refine RngC.mk (by omega) (by omega) ?_ | refine IdxC.mk (by omega) (by omega) ?_ | refine brD (fun _ => ?_) (fun _ => ?_) | refine brND (fun _ => ?_) (fun _ => ?_) | refine brN (fun _ => ?_) (fun _ => ?_) | refine brI (fun _ => ?_) (fun _ => ?_))
  all_goals simp_all [nextS]

def beginS (p f : Int) : Int × Nat :=
  if p ≠ 1 ∧ p ≠ 2 ∨ f < 0 ∨ 15 < f then (0, 2) else if p = 1 then (2, 0) else if f ≠ 1 then (0, 9) else (1, 0)

/-- Begin of a flow: TCP, SYN. -/
theorem begin_tcp (w : World) : CallC Tryd.prog 14 #[.int .i64 2, .int .i64 1] w fun v w' => v = .tuple #[.int .i64 1, .nilIface] ∧ w = w' := by
  refine fn_intro tabOk Tryd.func14 (by kernel_rfl) rfl Tryd.ntmps14 (Nat.le_of_ble_eq_true rfl) ?_
  repeat' ((conv => whnf); first | refine RetC.mk ?_ | refine RngC.mk (by omega) (by omega) ?_ | refine IdxC.mk (by omega) (by omega) ?_ | refine brD (fun _ => ?_) (fun _ => ?_) | refine brND (fun _ => ?_) (fun _ => ?_) | refine brN (fun _ => ?_) (fun _ => ?_) | refine brI (fun _ => ?_) (fun _ => ?_))
  all_goals trivial

theorem time_udp (s : Int) (w : World) : CallC Tryd.prog 18 #[.int .i64 1, .int .i64 s] w fun v w' => v = .int .i64 60 ∧ w = w' := by
  refine fn_intro tabOk Tryd.func18 (by kernel_rfl) rfl Tryd.ntmps18 (Nat.le_of_ble_eq_true rfl) ?_
  repeat' ((conv => whnf); first | refine RetC.mk ?_ | refine RngC.mk (by omega) (by omega) ?_ | refine IdxC.mk (by omega) (by omega) ?_ | refine brD (fun _ => ?_) (fun _ => ?_) | refine brND (fun _ => ?_) (fun _ => ?_) | refine brN (fun _ => ?_) (fun _ => ?_) | refine brI (fun _ => ?_) (fun _ => ?_))
  exact ⟨rfl, rfl⟩

theorem tracked_ok (w : World) : CallC Tryd.prog 12 #[] w fun v w' => v = .bool true ∧ w = w' := by
  refine fn_intro tabOk Tryd.func12 (by kernel_rfl) rfl Tryd.ntmps12 (Nat.le_of_ble_eq_true rfl) ?_
  (conv => whnf)
  refine (begin_tcp _).mono ?_
  rintro v w' ⟨rfl, rfl⟩
  (conv => whnf)
  refine (next_ok _ _ _ _ _).mono ?_
  rintro v w' ⟨rfl, rfl⟩
  (conv => whnf)
  refine (time_udp _ _).mono ?_
  rintro v w' ⟨rfl, rfl⟩
  repeat' ((conv => whnf); first | refine RetC.mk ?_ | refine RngC.mk (by omega) (by omega) ?_ | refine IdxC.mk (by omega) (by omega) ?_ | refine brD (fun _ => ?_) (fun _ => ?_) | refine brND (fun _ => ?_) (fun _ => ?_) | refine brN (fun _ => ?_) (fun _ => ?_) | refine brI (fun _ => ?_) (fun _ => ?_))
  exact ⟨rfl, rfl⟩
end Go.Proofs.YtnpfaghfcbbmdaaDoor
