/-
  The reference's role, walked: it does what package role does.
-/
import Derived.Test.YtnpfaghfcbbmdaaDoorRole
namespace Go.Proofs.YtnpfaghfcbbmdaaDoor
open Go Ev

section
variable {w : World} {b : Nat} {r : RoleS}

theorem ref_tick (hb : Blk w b 49 (encRole r)) (hr : r.Ok) : CallC Tryd.prog 29 #[.pointer (some ⟨b, 0, none⟩)] w fun v w' => v = .bool r.tick.1 ∧ Ext (· = b) w w' ∧ Blk w' b 49 (encRole r.tick.2) := by
  have h1 := hr.s1
  have h0 := hr.s0
  refine fn_intro tabOk Tryd.func29 (by kernel_rfl) rfl Tryd.ntmps29 (Nat.le_of_ble_eq_true rfl) ?_
  have hS := (St.start w (· = b)).add (blk_local b _ _) hb (by simp [blk]; exact hb.lt) (by simp)
  (conv => whnf)
  refine hS.ld 0 rfl rfl ?_
  (conv => whnf)
  refine brI (fun ha => ?_) (fun ha => ?_)
  · repeat' ((conv => whnf); first | refine RetC.mk ?_ | refine NzC.mk (by decide) ?_ | refine RngC.mk (by omega) (by omega) ?_ | refine IdxC.mk (by omega) (by omega) ?_ | refine brD (fun _ => ?_) (fun _ => ?_) | refine brND (fun _ => ?_) (fun _ => ?_) | refine brN (fun _ => ?_) (fun _ => ?_) | refine brI (fun _ => ?_) (fun _ => ?_))
    have e : r.tick = (false, r) := by simp [RoleS.tick, ha]
    rw [e]
    exact ⟨rfl, hS.ext, hS.blk 0 rfl⟩
  · repeat' ((conv => whnf); first | refine RetC.mk ?_ | refine NzC.mk (by decide) ?_ | refine RngC.mk (by omega) (by omega) ?_ | refine IdxC.mk (by omega) (by omega) ?_ | refine hS.ld 0 rfl rfl ?_ | refine hS.st 0 rfl (Nat.le_of_ble_eq_true rfl) rfl (fun w' hS => ?_) | refine brD (fun _ => ?_) (fun _ => ?_) | refine brND (fun _ => ?_) (fun _ => ?_) | refine brN (fun _ => ?_) (fun _ => ?_) | refine brI (fun _ => ?_) (fun _ => ?_))
    have e : r.tick = (decide (r.silence + 1 > 9), { r with silence := r.silence + 1 }) := by simp [RoleS.tick, ha]
    rw [e]
    exact ⟨rfl, hS.ext, hS.blk 0 rfl⟩

theorem ref_next (hb : Blk w b 49 (encRole r)) (hr : r.Ok) : CallC Tryd.prog 30 #[.pointer (some ⟨b, 0, none⟩)] w fun v w' => v = .tuple #[.int .i64 r.next.1, .int .i64 r.next.2] ∧ w = w' := by
  have h1 := hr.e1
  have h0 := hr.e0
  have hn := hr.n0
  have e0 : w.cell? ⟨b, 0 + 0, none⟩ = some (.int .i64 r.node) := hb.cell _
  have e1 : w.cell? ⟨b, 0 + 1, none⟩ = some (.int .i64 r.epoch) := hb.cell _
  refine fn_intro tabOk Tryd.func30 (by kernel_rfl) rfl Tryd.ntmps30 (Nat.le_of_ble_eq_true rfl) ?_
  (conv => whnf)
  refine ⟨_, e1, ?_⟩
  (conv => whnf)
  refine RngC.mk (by omega) (by omega) ?_
  (conv => whnf)
  refine loopR tabOk (fun σ w' n => ∃ e, σ = [(4, .int .i64 e), (0, .pointer (some ⟨b, 0, none⟩))] ∧ w = w' ∧ ((e = r.epoch + 1 ∧ n = 1) ∨ (e = r.epoch + 1 + 1 ∧ n = 0 ∧ (r.epoch + 1).tmod 2 ≠ r.node)))
    (σ' := [(4, .int .i64 (r.epoch + 1)), (0, .pointer (some ⟨b, 0, none⟩))]) (n := 1) ⟨rfl, rfl, trivial⟩ ⟨_, rfl, rfl, .inl ⟨rfl, rfl⟩⟩ ?_
  rintro _ w1 n ⟨e, rfl, rfl, he⟩
  (conv => whnf)
  refine NzC.mk (by decide) ?_
  (conv => whnf)
  refine ⟨_, e0, ?_⟩
  (conv => whnf)
  refine brND (fun h3 => ?_) (fun h3 => ?_)
  · rcases he with ⟨rfl, rfl⟩ | ⟨rfl, rfl, h4⟩
    · (conv => whnf)
      refine RngC.mk (by omega) (by omega) ?_
      (conv => whnf)
      exact LoopE.mk ⟨_, [(4, .int .i64 _), (0, _)], Nat.zero_lt_one, ⟨rfl, rfl, trivial⟩, ⟨_, rfl, rfl, .inr ⟨rfl, rfl, h3⟩⟩⟩
    · exfalso
      rw [tmod2 (by omega)] at h3 h4
      omega
  · have hnx : r.next = if e > 1073741824 then (0, 2) else (e, 0) := by
      unfold RoleS.next
      dsimp only
      rcases he with ⟨rfl, rfl⟩ | ⟨rfl, rfl, h4⟩
      · have e2 : (if (r.epoch + 1).tmod 2 ≠ r.node then r.epoch + 1 + 1 else r.epoch + 1) = r.epoch + 1 := if_neg (fun h => h h3)
        rw [e2]
      · have e2 : (if (r.epoch + 1).tmod 2 ≠ r.node then r.epoch + 1 + 1 else r.epoch + 1) = r.epoch + 1 + 1 := if_pos h4
        rw [e2]
    rw [hnx]
    (conv => whnf)
    refine brD (fun h5 => ?_) (fun h5 => ?_)
    · repeat' ((conv => whnf); first | refine RetC.mk ?_ | refine NzC.mk (by decide) ?_ | refine RngC.mk (by omega) (by omega) ?_ | refine IdxC.mk (by omega) (by omega) ?_ | refine brD (fun _ => ?_) (fun _ => ?_) | refine brND (fun _ => ?_) (fun _ => ?_) | refine brN (fun _ => ?_) (fun _ => ?_) | refine brI (fun _ => ?_) (fun _ => ?_))
      rw [if_pos h5]
      exact ⟨rfl, rfl⟩
    · repeat' ((conv => whnf); first | refine RetC.mk ?_ | refine NzC.mk (by decide) ?_ | refine RngC.mk (by omega) (by omega) ?_ | refine IdxC.mk (by omega) (by omega) ?_ | refine brD (fun _ => ?_) (fun _ => ?_) | refine brND (fun _ => ?_) (fun _ => ?_) | refine brN (fun _ => ?_) (fun _ => ?_) | refine brI (fun _ => ?_) (fun _ => ?_))
      rw [if_neg h5]
      exact ⟨rfl, rfl⟩

theorem ref_claim (e : Int) (hb : Blk w b 49 (encRole r)) (hr : r.Ok) :
    CallC Tryd.prog 31 #[.pointer (some ⟨b, 0, none⟩), .int .i64 e] w fun v w' => v = .int .i64 (r.claim e).1 ∧ Ext (· = b) w w' ∧ Blk w' b 49 (encRole (r.claim e).2) := by
  refine fn_intro tabOk Tryd.func31 (by kernel_rfl) rfl Tryd.ntmps31 (Nat.le_of_ble_eq_true rfl) ?_
  have hS := (St.start w (· = b)).add (blk_local b _ _) hb (by simp [blk]; exact hb.lt) (by simp)
  (conv => whnf)
  refine hS.ld 0 rfl rfl ?_
  (conv => whnf)
  refine brI (fun ha => ?_) (fun ha => ?_)
  · repeat' ((conv => whnf); first | refine RetC.mk ?_ | refine NzC.mk (by decide) ?_ | refine RngC.mk (by omega) (by omega) ?_ | refine IdxC.mk (by omega) (by omega) ?_ | refine brD (fun _ => ?_) (fun _ => ?_) | refine brND (fun _ => ?_) (fun _ => ?_) | refine brN (fun _ => ?_) (fun _ => ?_) | refine brI (fun _ => ?_) (fun _ => ?_))
    rw [show r.claim e = (11, r) by simp [RoleS.claim, ha]]
    exact ⟨rfl, hS.ext, hS.blk 0 rfl⟩
  · (conv => whnf)
    refine (ref_next hb hr).mono ?_
    rintro v w' ⟨rfl, rfl⟩
    repeat' ((conv => whnf); first | refine RetC.mk ?_ | refine NzC.mk (by decide) ?_ | refine RngC.mk (by omega) (by omega) ?_ | refine IdxC.mk (by omega) (by omega) ?_ | refine hS.ld 0 rfl rfl ?_ | refine hS.st 0 rfl (Nat.le_of_ble_eq_true rfl) rfl (fun w' hS => ?_) | refine brD (fun _ => ?_) (fun _ => ?_) | refine brND (fun _ => ?_) (fun _ => ?_) | refine brN (fun _ => ?_) (fun _ => ?_) | refine brI (fun _ => ?_) (fun _ => ?_))
    all_goals have hB := hS.blk 0 rfl
    all_goals refine ⟨?_, hS.ext, hB.to ?_⟩
    all_goals clear hB hS hb
    all_goals unfold RoleS.claim; (try dsimp only [encRole])
    all_goals ((repeat' split) <;> first | rfl | (exfalso; omega) | (simp_all [over, cellsL]; done) | (simp_all [over, cellsL]; omega) | trace_state)
end

theorem RoleS.Ok.hear {r : RoleS} (h : r.Ok) (e : Int) : (r.hear e).2.Ok := by
  obtain ⟨n0, e0, e1, s0, s1⟩ := h
  unfold RoleS.hear
  dsimp only
  repeat' split
  all_goals (constructor <;> first | assumption | omega | (dsimp only; omega) | (simp_all; done) | trace_state)
theorem RoleS.Ok.claim {r : RoleS} (h : r.Ok) (e : Int) : (r.claim e).2.Ok := by
  have hk := h
  obtain ⟨n0, e0, e1, s0, s1⟩ := h
  unfold RoleS.claim
  repeat' split
  all_goals first | exact hk | skip
  rename_i h1 h2 h3
  have : 0 ≤ r.next.1 ∧ r.next.1 ≤ 1073741824 := by
    unfold RoleS.next
    dsimp only
    repeat' split
    all_goals (constructor <;> dsimp only <;> omega)
  simp only [ne_eq, Decidable.not_not] at h3
  exact ⟨n0, by show 0 ≤ e; omega, by show e ≤ _; omega, s0, s1⟩
theorem RoleS.hear_silence {r : RoleS} {k : Nat} (h : r.silence ≤ k) (e : Int) : (r.hear e).2.silence ≤ k := by
  unfold RoleS.hear
  dsimp only
  repeat' split
  all_goals first | assumption | (dsimp only; omega)
theorem RoleS.claim_silence {r : RoleS} {k : Nat} (h : r.silence ≤ k) (e : Int) : (r.claim e).2.silence ≤ k := by
  unfold RoleS.claim
  repeat' split
  all_goals exact h
theorem RoleS.claim_code {r : RoleS} (e : Int) : (r.claim e).1 < 12 := by
  have : r.next.2 < 12 := by
    unfold RoleS.next
    dsimp only
    repeat' split
    all_goals simp
  unfold RoleS.claim
  repeat' split
  all_goals first | exact this | (dsimp only; omega)
theorem RoleS.next_code {r : RoleS} : r.next.2 < 12 := by
  unfold RoleS.next
  dsimp only
  repeat' split
  all_goals simp
end Go.Proofs.YtnpfaghfcbbmdaaDoor
