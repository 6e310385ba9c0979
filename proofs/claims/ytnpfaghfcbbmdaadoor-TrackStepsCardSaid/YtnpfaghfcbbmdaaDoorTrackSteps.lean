/-
  TrackSteps returns true whatever its arguments.
-/
import Derived.Test.YtnpfaghfcbbmdaaDoorTrack
import Derived.Test.YtnpfaghfcbbmdaaDoorAs
namespace Go.Proofs.YtnpfaghfcbbmdaaDoor
open Go Ev

theorem trackSteps_ok {E : Nat → Addr} (W : World) (hE : Errs W E W.heap.size allErrs) (hh : Handle W) (p s f : Int) (o : Bool) :
    CallC Tryd.prog 4 #[.int .i64 p, .int .i64 s, .int .i64 f, .bool o] W fun v w' => v = .bool true ∧ Ext No W w' := by
  have hcode := beginS_code p f
  refine fn_intro tabOk Tryd.func4 (by kernel_rfl) rfl Tryd.ntmps4 (Nat.le_of_ble_eq_true rfl) ?_
  have hS := St.start W No
  (conv => whnf)
  refine (tracked_ok _ (hE.sub rfl)).mono ?_
  rintro v w' ⟨rfl, hx⟩
  replace hS := hS.no hx
  (conv => whnf)
  refine (begin_ok p f _ ((hE.sub rfl).ext hS.ext fun _ h => h.elim)).mono ?_
  rintro v w' ⟨rfl, hx⟩
  replace hS := hS.no hx
  (conv => whnf)
  refine (beginOf_ok p f _).mono ?_
  rintro v w' ⟨rfl, rfl⟩
  (conv => whnf)
  obtain ⟨n1, n2, hn⟩ : ∃ n1 n2, nextS p s f o = (n1, n2) := ⟨_, _, rfl⟩
  have c1 := next_ok p s f o
  have c2 := nextOf_ok p s f o
  rw [hn] at c1 c2
  clear hn
  refine (c1 _).mono ?_
  rintro v w' ⟨rfl, rfl⟩
  (conv => whnf)
  refine (c2 _).mono ?_
  rintro v w' ⟨rfl, rfl⟩
  (conv => whnf)
  refine (coded1_ok _ _ hcode _ (hE.ext hS.ext fun _ h => h.elim) (hh.ext hS.ext)).mono ?_
  rintro v w' ⟨rfl, hx⟩
  replace hS := hS.no hx
  have c3 := time_ok p s
  have c4 := timeOf_ok p s
  cases n2
  all_goals
    repeat' ((conv => whnf); first | refine RetC.mk ?_ | refine NzC.mk (by decide) ?_ | refine RngC.mk (by omega) (by omega) ?_ | refine IdxC.mk (by omega) (by omega) ?_ | (refine (c3 _).mono ?_; rintro v w' ⟨rfl, hx⟩; replace hS := hS.no hx) | (refine (c4 _).mono ?_; rintro v w' ⟨rfl, rfl⟩) | refine brD (fun _ => ?_) (fun _ => ?_) | refine brND (fun _ => ?_) (fun _ => ?_) | refine brN (fun _ => ?_) (fun _ => ?_) | refine brI (fun _ => ?_) (fun _ => ?_))
    all_goals refine ⟨?_, hS.ext⟩
    all_goals simp_all

theorem trackSteps_walk {E : Nat → Addr} (W : World) (args : List Value) (hE : Errs W E W.heap.size allErrs) (hh : Handle W) (ha : ArgsOk Tryd.prog W [3, 3, 3, 4] args) :
    CallC Tryd.prog 4 args.toArray W fun v w' => v = .bool true ∧ Ext No W w' := by
  obtain ⟨v0, args, rfl, h0, ha⟩ := ha.cons
  obtain ⟨v1, args, rfl, h1, ha⟩ := ha.cons
  obtain ⟨v2, args, rfl, h2, ha⟩ := ha.cons
  obtain ⟨v3, args, rfl, h3, ha⟩ := ha.cons
  obtain rfl := ha.nil
  obtain ⟨x0, rfl, _⟩ := arg_int Tryd.underlying3 h0
  obtain ⟨x1, rfl, _⟩ := arg_int Tryd.underlying3 h1
  obtain ⟨x2, rfl, _⟩ := arg_int Tryd.underlying3 h2
  obtain ⟨x3, rfl⟩ := arg_bool Tryd.underlying4 h3
  exact trackSteps_ok W hE hh x0 x1 x2 x3
end Go.Proofs.YtnpfaghfcbbmdaaDoor
