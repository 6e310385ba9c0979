
/-
  Package packet's Check, and the reference's: what is wrong with a packet.
-/
import Derived.Test.YtakdekkieobbaaaDoorErr
import Derived.Test.YtakdekkieobbaaaDoorEvO
import Derived.Test.YtakdekkieobbaaaDoorEvL
namespace Go.Proofs.YtakdekkieobbaaaDoor
open Go Ev

structure PktS where
  proto : Int
  sa : Int
  sp : Int
  da : Int
  dp : Int
  flags : Int
deriving DecidableEq
def encPkt (p : PktS) : List Value := [.int .i64 p.proto, .int .i64 p.sa, .int .i64 p.sp, .int .i64 p.da, .int .i64 p.dp, .int .i64 p.flags]
def noPkt : PktS := ⟨0, 0, 0, 0, 0, 0⟩
def endB (a p : Int) : Bool := decide (0 ≤ a ∧ a ≤ 1048576 ∧ 1 ≤ p ∧ p ≤ 65535)
def PktS.bad (p : PktS) : Bool := decide ((p.proto ≠ 1 ∧ p.proto ≠ 2) ∨ endB p.sa p.sp = false ∨ endB p.da p.dp = false ∨ p.flags < 0 ∨ p.flags > 15)
def PktS.err (p : PktS) : Nat := if p.bad = true then 2 else if p.proto = 1 ∧ p.flags ≠ 0 then 3 else 0
theorem PktS.err_code (p : PktS) : p.err < 12 := by
  unfold PktS.err
  split
  · omega
  · split <;> omega

theorem end_ok (a p : Int) (w : World) : CallC Tryd.prog 66 #[.agg #[.int .i64 a, .int .i64 p]] w fun v w' => v = .bool (endB a p) ∧ Ext No w w' := by
  refine fn_intro tabOk Tryd.func66 (by kernel_rfl) rfl Tryd.ntmps66 (Nat.le_of_ble_eq_true rfl) ?_
  have hS := St.start w No
  (conv => whnf)
  refine hS.new (fun b w' hb hS => ?_)
  replace hS : St w No w' [blk b 26 [.int .i64 a, .int .i64 p]] := hS
  repeat' ((conv => whnf); first | refine RetC.mk ?_ | refine NzC.mk (by decide) ?_ | refine RngC.mk (by omega) (by omega) ?_ | refine IdxC.mk (by omega) (by omega) ?_ | refine hS.ld 0 rfl rfl ?_ | refine hS.laX 0 rfl rfl ?_ | refine brD (fun _ => ?_) (fun _ => ?_) | refine brND (fun _ => ?_) (fun _ => ?_) | refine brN (fun _ => ?_) (fun _ => ?_) | refine brI (fun _ => ?_) (fun _ => ?_))
  all_goals refine ⟨congrArg Value.bool (Bool.eq_iff_iff.2 ?_), hS.ext⟩
  all_goals simp [endB]
  all_goals omega
theorem isEnd_ok (a p : Int) (w : World) : CallC Tryd.prog 36 #[.agg #[.int .i64 a, .int .i64 p]] w fun v w' => v = .bool (endB a p) ∧ Ext No w w' := by
  refine fn_intro tabOk Tryd.func36 (by kernel_rfl) rfl Tryd.ntmps36 (Nat.le_of_ble_eq_true rfl) ?_
  have hS := St.start w No
  (conv => whnf)
  refine hS.new (fun b w' hb hS => ?_)
  replace hS : St w No w' [blk b 26 [.int .i64 a, .int .i64 p]] := hS
  repeat' ((conv => whnf); first | refine RetC.mk ?_ | refine NzC.mk (by decide) ?_ | refine RngC.mk (by omega) (by omega) ?_ | refine IdxC.mk (by omega) (by omega) ?_ | refine hS.ld 0 rfl rfl ?_ | refine hS.laX 0 rfl rfl ?_ | refine brD (fun _ => ?_) (fun _ => ?_) | refine brND (fun _ => ?_) (fun _ => ?_) | refine brN (fun _ => ?_) (fun _ => ?_) | refine brI (fun _ => ?_) (fun _ => ?_))
  all_goals refine ⟨congrArg Value.bool (Bool.eq_iff_iff.2 ?_), hS.ext⟩
  all_goals simp [endB]
  all_goals omega
theorem pcheck_ok {E : Nat → Addr} {n : Nat} (p : PktS) (w : World) (hE : Errs w E n [2, 3]) : CallC Tryd.prog 37 #[.agg (encPkt p).toArray] w fun v w' => v = errV E p.err ∧ Ext No w w' := by
  have hbad : p.bad = decide ((p.proto ≠ 1 ∧ p.proto ≠ 2) ∨ endB p.sa p.sp = false ∨ endB p.da p.dp = false ∨ p.flags < 0 ∨ p.flags > 15) := rfl
  refine fn_intro tabOk Tryd.func37 (by kernel_rfl) rfl Tryd.ntmps37 (Nat.le_of_ble_eq_true rfl) ?_
  have hS := St.start w No
  (conv => whnf)
  refine hS.new (fun b w' hb hS => ?_)
  replace hS : St w No w' [blk b 28 (encPkt p)] := hS
  unfold PktS.err
  generalize hs : endB p.sa p.sp = s1 at hbad
  generalize hd : endB p.da p.dp = d1 at hbad
  repeat' ((conv => whnf); first | refine RetC.mk ?_ | refine NzC.mk (by decide) ?_ | refine RngC.mk (by omega) (by omega) ?_ | refine IdxC.mk (by omega) (by omega) ?_ | refine hS.ld 0 rfl rfl ?_ | refine hS.laX 0 rfl rfl ?_ | (refine (end_ok p.sa p.sp _).mono ?_; rintro v w' ⟨rfl, hx'⟩; replace hS := hS.no hx'; clear hx'; rw [hs]) | (refine (end_ok p.da p.dp _).mono ?_; rintro v w' ⟨rfl, hx'⟩; replace hS := hS.no hx'; clear hx'; rw [hd]) | refine hS.ldr (hE.at_ 2 rfl) id ?_ | refine hS.ldrF (hE.at_ 2 rfl) id id ?_ | refine hS.ldr (hE.at_ 3 rfl) id ?_ | refine hS.ldrF (hE.at_ 3 rfl) id id ?_ | refine brD (fun _ => ?_) (fun _ => ?_) | refine brND (fun _ => ?_) (fun _ => ?_) | refine brN (fun _ => ?_) (fun _ => ?_) | refine brI (fun _ => ?_) (fun _ => ?_))
  all_goals refine ⟨?_, hS.ext⟩
  all_goals clear hS
  all_goals rw [hbad]
  all_goals clear hbad hs hd
  all_goals (repeat' split) <;> first | rfl | (exfalso; simp_all; done) | (exfalso; simp_all; omega)
theorem perror_ok (p : PktS) (w : World) : CallC Tryd.prog 11 #[.agg (encPkt p).toArray] w fun v w' => v = .int .i64 (p.err : Nat) ∧ Ext No w w' := by
  have hbad : p.bad = decide ((p.proto ≠ 1 ∧ p.proto ≠ 2) ∨ endB p.sa p.sp = false ∨ endB p.da p.dp = false ∨ p.flags < 0 ∨ p.flags > 15) := rfl
  refine fn_intro tabOk Tryd.func11 (by kernel_rfl) rfl Tryd.ntmps11 (Nat.le_of_ble_eq_true rfl) ?_
  have hS := St.start w No
  (conv => whnf)
  refine hS.new (fun b w' hb hS => ?_)
  replace hS : St w No w' [blk b 28 (encPkt p)] := hS
  unfold PktS.err
  generalize hs : endB p.sa p.sp = s1 at hbad
  generalize hd : endB p.da p.dp = d1 at hbad
  repeat' ((conv => whnf); first | refine RetC.mk ?_ | refine NzC.mk (by decide) ?_ | refine RngC.mk (by omega) (by omega) ?_ | refine IdxC.mk (by omega) (by omega) ?_ | refine hS.ld 0 rfl rfl ?_ | refine hS.laX 0 rfl rfl ?_ | (refine (isEnd_ok p.sa p.sp _).mono ?_; rintro v w' ⟨rfl, hx'⟩; replace hS := hS.no hx'; clear hx'; rw [hs]) | (refine (isEnd_ok p.da p.dp _).mono ?_; rintro v w' ⟨rfl, hx'⟩; replace hS := hS.no hx'; clear hx'; rw [hd]) | refine brD (fun _ => ?_) (fun _ => ?_) | refine brND (fun _ => ?_) (fun _ => ?_) | refine brN (fun _ => ?_) (fun _ => ?_) | refine brI (fun _ => ?_) (fun _ => ?_))
  all_goals refine ⟨?_, hS.ext⟩
  all_goals clear hS
  all_goals rw [hbad]
  all_goals clear hbad hs hd
  all_goals (repeat' split) <;> first | rfl | (exfalso; simp_all; done) | (exfalso; simp_all; omega)
end Go.Proofs.YtakdekkieobbaaaDoor
