/-
  Texts of this claim, joined: RPlayB, RPlayC, NodeM, AsW, Both, PlayRuns.
-/
import Derived.Test.YtoaghhcjlfiflaaGreatDoorPlayRunsJ

namespace Go.Proofs.YtoaghhcjlfiflaaGreatDoor
open Go Ev
section
variable {w w' w0 : World} {Y : RWorldA} {W : WorldS} {R : RBys} {m j : Nat}
theorem rticks_ok (n : Int) (k : Nat) (h : RStands w0 m j w Y W R) (hm : m + 34 * k ≤ 40000000) (hj : j + 18 * k ≤ 50000000) : CallC Tryz.prog 128 #[.pointer (some ⟨Y.w, 0, none⟩), .int .i64 n, .int .i64 (k : Int)] w fun v w' => v = .int .i64 ((W.ticks n k).1 : Nat) ∧ RDoes w0 (m + 34 * k) (j + 18 * k) w Y W R (W.ticks n k).2 w' := by
  refine fn_intro tabOk Tryz.func128 (by kernel_rfl) rfl Tryz.ntmps128 (Nat.le_of_ble_eq_true rfl) ?_
  (conv => whnf)
  refine loopR tabOk (fun σ w' r => ∃ (i : Nat) (W' : WorldS), σ = [(7, .int .i64 i), (2, .int .i64 (k : Int)), (1, .int .i64 n), (0, .pointer (some ⟨Y.w, 0, none⟩))] ∧ r = k - i ∧ i ≤ k ∧ RDoes w0 (m + 34 * i) (j + 18 * i) w Y W R W' w' ∧ W.ticks n k = W'.ticks n (k - i))
    (σ' := [(7, .int .i64 ((0 : Nat) : Int)), (2, .int .i64 (k : Int)), (1, .int .i64 n), (0, .pointer (some ⟨Y.w, 0, none⟩))]) (n := k) ⟨rfl, rfl, rfl, rfl, trivial⟩ ⟨0, W, rfl, rfl, Nat.zero_le _, RDoes.same h (Nat.le_refl _) (Nat.le_refl _) (Ext.refl _ _), rfl⟩ ?_
  rintro _ w1 r ⟨i, W', rfl, rfl, hi, ⟨Y1, R1, hw, hT, h1⟩, hr⟩
  (conv => whnf)
  refine brD (fun h3 => ?_) (fun h3 => ?_)
  · obtain ⟨z, hz⟩ : ∃ z, k - i = z + 1 := ⟨k - i - 1, by omega⟩
    rw [hz] at hr
    (conv => whnf)
    rw [← hw]
    refine (rwtick_ok n h1 (by omega) (by omega)).mono ?_
    rintro v w2 ⟨rfl, Y2, R2, hw2, hT2, h2⟩
    have hd : RDoes w0 (m + 34 * (i + 1)) (j + 18 * (i + 1)) w Y W R (W'.tick n).2 w2 := ⟨Y2, R2, hw2.trans hw, hT.trans hT2, h2⟩
    have hc : W'.ticks n (z + 1) = if (W'.tick n).1 ≠ 0 then W'.tick n else (W'.tick n).2.ticks n z := rfl
    rw [hc] at hr
    (conv => whnf)
    refine brD (fun he => ?_) (fun he => ?_)
    · rw [if_pos (by omega)] at hr
      repeat' ((conv => whnf); first | refine RetC.mk ?_ | refine NzC.mk (by decide) ?_ | refine RngC.mk (by omega) (by omega) ?_ | refine IdxC.mk (by omega) (by omega) ?_ | refine brD (fun _ => ?_) (fun _ => ?_) | refine brND (fun _ => ?_) (fun _ => ?_) | refine brN (fun _ => ?_) (fun _ => ?_) | refine brI (fun _ => ?_) (fun _ => ?_))
      rw [hr]
      exact ⟨rfl, hd.mono (by omega) (by omega)⟩
    · rw [if_neg (by omega)] at hr
      (conv => whnf)
      refine RngC.mk (by omega) (by omega) ?_
      (conv => whnf)
      refine LoopE.mk ⟨_, [(7, .int .i64 ((i + 1 : Nat) : Int)), (2, _), (1, _), (0, _)], ?_, ⟨rfl, rfl, rfl, rfl, trivial⟩, ⟨i + 1, (W'.tick n).2, rfl, rfl, by omega, hd, by rw [hr]; congr 1; omega⟩⟩
      omega
  · obtain rfl : i = k := by omega
    rw [Nat.sub_self] at hr
    repeat' ((conv => whnf); first | refine RetC.mk ?_ | refine NzC.mk (by decide) ?_ | refine RngC.mk (by omega) (by omega) ?_ | refine IdxC.mk (by omega) (by omega) ?_ | refine brD (fun _ => ?_) (fun _ => ?_) | refine brND (fun _ => ?_) (fun _ => ?_) | refine brN (fun _ => ?_) (fun _ => ?_) | refine brI (fun _ => ?_) (fun _ => ?_))
    rw [hr]
    exact ⟨rfl, Y1, R1, hw, hT, h1⟩
set_option maxHeartbeats 4000000 in
set_option maxRecDepth 10000 in
theorem rone_ok (v : Int) (hv : v ≤ 9223372036854775807) (h : RStands w0 m j w Y W R) (hm : m + 340 ≤ 40000000) (hjj : j + 180 ≤ 50000000) : CallC Tryz.prog 82 #[.pointer (some ⟨Y.w, 0, none⟩), .int .i64 v] w fun u w' => u = .int .i64 (W.say v).1 ∧ RDoes w0 (m + 340) (j + 180) w Y W R (W.say v).2 w' := by
  by_cases h0 : v < 0
  · rw [show W.say v = (-1, W) from if_pos h0]
    refine fn_intro tabOk Tryz.func82 (by kernel_rfl) rfl Tryz.ntmps82 (Nat.le_of_ble_eq_true rfl) ?_
    (conv => whnf)
    refine brD (fun _ => ?_) (fun h => absurd h0 h)
    repeat' ((conv => whnf); first | refine RetC.mk ?_ | refine NzC.mk (by decide) ?_ | refine RngC.mk (by omega) (by omega) ?_ | refine IdxC.mk (by omega) (by omega) ?_ | refine brD (fun _ => ?_) (fun _ => ?_) | refine brND (fun _ => ?_) (fun _ => ?_) | refine brN (fun _ => ?_) (fun _ => ?_) | refine brI (fun _ => ?_) (fun _ => ?_))
    exact ⟨rfl, RDoes.same h (Nat.le_add_right _ _) (Nat.le_add_right _ _) (Ext.refl _ _)⟩
  rw [show W.say v = ((((W.one v).1 : Nat) : Int), (W.one v).2) from if_neg h0]
  have h0 : 0 ≤ v := by omega
  obtain ⟨i, hi, he⟩ := one_lt h0
  have hq0 : 0 ≤ v.tdiv 16 ∧ v.tdiv 16 ≤ v := by
    rw [Int.tdiv_eq_ediv_of_nonneg h0]
    omega
  have hflen := h.ok.fly
  generalize hqq : v.tdiv 16 = k at hq0
  have hk2 : 0 ≤ k.tmod 2 ∧ k.tmod 2 < 2 := by rw [Int.tmod_eq_emod_of_nonneg hq0.1]; omega
  have hkd : 0 ≤ k.tdiv 2 ∧ k.tdiv 2 ≤ k := by
    rw [Int.tdiv_eq_ediv_of_nonneg hq0.1]
    omega
  have hk30 : 0 ≤ (k.tdiv 2).tmod 30 ∧ (k.tdiv 2).tmod 30 < 30 := by rw [Int.tmod_eq_emod_of_nonneg hkd.1]; omega
  refine fn_intro tabOk Tryz.func82 (by kernel_rfl) rfl Tryz.ntmps82 (Nat.le_of_ble_eq_true rfl) ?_
  have hS := h.has.start
  (conv => whnf)
  refine brD (fun h => absurd h (by omega)) (fun _ => ?_)
  (conv => whnf)
  refine NzC.mk (by decide) ?_
  rw [hqq]
  refine RngC.mk (by omega) (by omega) ?_
  (conv => whnf)
  refine NzC.mk (by decide) ?_
  rw [he]
  by_cases hf : W.fly.length = 0
  · by_cases h5 : i < 5
    · have hone : W.one v = (4, W) := by
        unfold WorldS.one
        rw [if_pos ⟨by rw [he]; omega, hf⟩]
      rw [hone]
      have hj5 : i = 0 ∨ i = 1 ∨ i = 2 ∨ i = 3 ∨ i = 4 := by omega
      rcases hj5 with rfl | rfl | rfl | rfl | rfl
      all_goals
        (conv => whnf)
        refine hS.ld 0 rfl rfl ?_
        rw [hf]
        repeat' ((conv => whnf); first | refine RetC.mk ?_ | refine NzC.mk (by decide) ?_ | refine RngC.mk (by omega) (by omega) ?_ | refine IdxC.mk (by omega) (by omega) ?_ | refine brD (fun _ => ?_) (fun _ => ?_) | refine brND (fun _ => ?_) (fun _ => ?_) | refine brN (fun _ => ?_) (fun _ => ?_) | refine brI (fun _ => ?_) (fun _ => ?_))
        exact ⟨rfl, RDoes.same h (Nat.le_add_right _ _) (Nat.le_add_right _ _) (Ext.refl _ _)⟩
    · have hj5 : i = 5 ∨ i = 6 ∨ i = 7 ∨ i = 8 ∨ i = 9 ∨ i = 10 ∨ i = 11 ∨ i = 12 ∨ i = 13 ∨ i = 14 ∨ i = 15 := by omega
      rcases hj5 with rfl | rfl | rfl | rfl | rfl | rfl | rfl | rfl | rfl | rfl | rfl
      · skip
        have hone : W.one v = W.tick (k.tmod 2) := by simp [WorldS.one, he, hqq]
        rw [hone]
        repeat' ((conv => whnf); first | refine RetC.mk ?_ | refine NzC.mk (by decide) ?_ | refine RngC.mk (by omega) (by omega) ?_ | refine IdxC.mk (by omega) (by omega) ?_ | (refine (rwtick_ok _ h (by omega) (by omega)).mono ?_; rintro v1 w1 ⟨rfl, hX⟩) | refine brD (fun _ => ?_) (fun _ => ?_) | refine brND (fun _ => ?_) (fun _ => ?_) | refine brN (fun _ => ?_) (fun _ => ?_) | refine brI (fun _ => ?_) (fun _ => ?_))
        exact ⟨rfl, hX.mono (by omega) (by omega)⟩
      · skip
        have hone : W.one v = W.tick (k.tmod 2) := by simp [WorldS.one, he, hqq]
        rw [hone]
        repeat' ((conv => whnf); first | refine RetC.mk ?_ | refine NzC.mk (by decide) ?_ | refine RngC.mk (by omega) (by omega) ?_ | refine IdxC.mk (by omega) (by omega) ?_ | (refine (rwtick_ok _ h (by omega) (by omega)).mono ?_; rintro v1 w1 ⟨rfl, hX⟩) | refine brD (fun _ => ?_) (fun _ => ?_) | refine brND (fun _ => ?_) (fun _ => ?_) | refine brN (fun _ => ?_) (fun _ => ?_) | refine brI (fun _ => ?_) (fun _ => ?_))
        exact ⟨rfl, hX.mono (by omega) (by omega)⟩
      · skip
        have hone : W.one v = W.ticks (k.tmod 2) 10 := by simp [WorldS.one, he, hqq]
        rw [hone]
        repeat' ((conv => whnf); first | refine RetC.mk ?_ | refine NzC.mk (by decide) ?_ | refine RngC.mk (by omega) (by omega) ?_ | refine IdxC.mk (by omega) (by omega) ?_ | (refine (rticks_ok _ 10 h (by omega) (by omega)).mono ?_; rintro v1 w1 ⟨rfl, hX⟩) | refine brD (fun _ => ?_) (fun _ => ?_) | refine brND (fun _ => ?_) (fun _ => ?_) | refine brN (fun _ => ?_) (fun _ => ?_) | refine brI (fun _ => ?_) (fun _ => ?_))
        exact ⟨rfl, hX.mono (by omega) (by omega)⟩
      · skip
        have hone : W.one v = ((W.inside (insideOf k)).1, (W.inside (insideOf k)).2.2) := by simp [WorldS.one, he, hqq]
        rw [hone]
        (conv => whnf)
        refine (rpinside_ok k hq0.1 (by omega) _).mono ?_
        rintro v1 w1 ⟨rfl, hx⟩
        (conv => whnf)
        refine (rinsideW_ok (insideOf k) (h.no hx) (by omega)).mono ?_
        rintro v1 w2 ⟨rfl, Y2, R2, hw2, hT2, h2⟩
        repeat' ((conv => whnf); first | refine RetC.mk ?_ | refine NzC.mk (by decide) ?_ | refine RngC.mk (by omega) (by omega) ?_ | refine IdxC.mk (by omega) (by omega) ?_ | refine brD (fun _ => ?_) (fun _ => ?_) | refine brND (fun _ => ?_) (fun _ => ?_) | refine brN (fun _ => ?_) (fun _ => ?_) | refine brI (fun _ => ?_) (fun _ => ?_))
        exact ⟨rfl, RDoes.mono ⟨Y2, R2, hw2, (Turns.of_no h.has hx).trans hT2, h2⟩ (by omega) (by omega)⟩
      · skip
        have hone : W.one v = ((W.inside (insideOf k)).1, (W.inside (insideOf k)).2.2) := by simp [WorldS.one, he, hqq]
        rw [hone]
        (conv => whnf)
        refine (rpinside_ok k hq0.1 (by omega) _).mono ?_
        rintro v1 w1 ⟨rfl, hx⟩
        (conv => whnf)
        refine (rinsideW_ok (insideOf k) (h.no hx) (by omega)).mono ?_
        rintro v1 w2 ⟨rfl, Y2, R2, hw2, hT2, h2⟩
        repeat' ((conv => whnf); first | refine RetC.mk ?_ | refine NzC.mk (by decide) ?_ | refine RngC.mk (by omega) (by omega) ?_ | refine IdxC.mk (by omega) (by omega) ?_ | refine brD (fun _ => ?_) (fun _ => ?_) | refine brND (fun _ => ?_) (fun _ => ?_) | refine brN (fun _ => ?_) (fun _ => ?_) | refine brI (fun _ => ?_) (fun _ => ?_))
        exact ⟨rfl, RDoes.mono ⟨Y2, R2, hw2, (Turns.of_no h.has hx).trans hT2, h2⟩ (by omega) (by omega)⟩
      · skip
        have hone : W.one v = ((W.outside (outsideOf k)).1, (W.outside (outsideOf k)).2.2) := by simp [WorldS.one, he, hqq]
        rw [hone]
        (conv => whnf)
        refine (rpoutside_ok k hq0.1 (by omega) _).mono ?_
        rintro v1 w1 ⟨rfl, hx⟩
        (conv => whnf)
        refine (routsideW_ok (outsideOf k) (h.no hx) (by omega)).mono ?_
        rintro v1 w2 ⟨rfl, Y2, R2, hw2, hT2, h2⟩
        repeat' ((conv => whnf); first | refine RetC.mk ?_ | refine NzC.mk (by decide) ?_ | refine RngC.mk (by omega) (by omega) ?_ | refine IdxC.mk (by omega) (by omega) ?_ | refine brD (fun _ => ?_) (fun _ => ?_) | refine brND (fun _ => ?_) (fun _ => ?_) | refine brN (fun _ => ?_) (fun _ => ?_) | refine brI (fun _ => ?_) (fun _ => ?_))
        exact ⟨rfl, RDoes.mono ⟨Y2, R2, hw2, (Turns.of_no h.has hx).trans hT2, h2⟩ (by omega) (by omega)⟩
      · skip
        have hone : W.one v = ((W.outside (outsideOf k)).1, (W.outside (outsideOf k)).2.2) := by simp [WorldS.one, he, hqq]
        rw [hone]
        (conv => whnf)
        refine (rpoutside_ok k hq0.1 (by omega) _).mono ?_
        rintro v1 w1 ⟨rfl, hx⟩
        (conv => whnf)
        refine (routsideW_ok (outsideOf k) (h.no hx) (by omega)).mono ?_
        rintro v1 w2 ⟨rfl, Y2, R2, hw2, hT2, h2⟩
        repeat' ((conv => whnf); first | refine RetC.mk ?_ | refine NzC.mk (by decide) ?_ | refine RngC.mk (by omega) (by omega) ?_ | refine IdxC.mk (by omega) (by omega) ?_ | refine brD (fun _ => ?_) (fun _ => ?_) | refine brND (fun _ => ?_) (fun _ => ?_) | refine brN (fun _ => ?_) (fun _ => ?_) | refine brI (fun _ => ?_) (fun _ => ?_))
        exact ⟨rfl, RDoes.mono ⟨Y2, R2, hw2, (Turns.of_no h.has hx).trans hT2, h2⟩ (by omega) (by omega)⟩
      · skip
        have hone : W.one v = W.down (k.tmod 2) := by simp [WorldS.one, he, hqq]
        rw [hone]
        repeat' ((conv => whnf); first | refine RetC.mk ?_ | refine NzC.mk (by decide) ?_ | refine RngC.mk (by omega) (by omega) ?_ | refine IdxC.mk (by omega) (by omega) ?_ | (refine (rdown_ok _ h).mono ?_; rintro v1 w1 ⟨rfl, hX⟩) | refine brD (fun _ => ?_) (fun _ => ?_) | refine brND (fun _ => ?_) (fun _ => ?_) | refine brN (fun _ => ?_) (fun _ => ?_) | refine brI (fun _ => ?_) (fun _ => ?_))
        exact ⟨rfl, hX.mono (by omega) (by omega)⟩
      · skip
        have hone : W.one v = W.up (k.tmod 2) := by simp [WorldS.one, he, hqq]
        rw [hone]
        repeat' ((conv => whnf); first | refine RetC.mk ?_ | refine NzC.mk (by decide) ?_ | refine RngC.mk (by omega) (by omega) ?_ | refine IdxC.mk (by omega) (by omega) ?_ | (refine (rcome_ok _ h (by omega)).mono ?_; rintro v1 w1 ⟨rfl, hX⟩) | refine brD (fun _ => ?_) (fun _ => ?_) | refine brND (fun _ => ?_) (fun _ => ?_) | refine brN (fun _ => ?_) (fun _ => ?_) | refine brI (fun _ => ?_) (fun _ => ?_))
        exact ⟨rfl, hX.mono (by omega) (by omega)⟩
      · skip
        have hone : W.one v = W.cut (k.tmod 2) ((k.tdiv 2).tmod 30) := by simp [WorldS.one, he, hqq]
        rw [hone]
        repeat' ((conv => whnf); first | refine RetC.mk ?_ | refine NzC.mk (by decide) ?_ | refine RngC.mk (by omega) (by omega) ?_ | refine IdxC.mk (by omega) (by omega) ?_ | (refine (rcut_ok _ _ (by omega) h).mono ?_; rintro v1 w1 ⟨rfl, hX⟩) | refine brD (fun _ => ?_) (fun _ => ?_) | refine brND (fun _ => ?_) (fun _ => ?_) | refine brN (fun _ => ?_) (fun _ => ?_) | refine brI (fun _ => ?_) (fun _ => ?_))
        exact ⟨rfl, hX.mono (by omega) (by omega)⟩
      · have hone : W.one v = (0, W) := by simp [WorldS.one, he]
        rw [hone]
        repeat' ((conv => whnf); first | refine RetC.mk ?_ | refine NzC.mk (by decide) ?_ | refine RngC.mk (by omega) (by omega) ?_ | refine IdxC.mk (by omega) (by omega) ?_ | refine brD (fun _ => ?_) (fun _ => ?_) | refine brND (fun _ => ?_) (fun _ => ?_) | refine brN (fun _ => ?_) (fun _ => ?_) | refine brI (fun _ => ?_) (fun _ => ?_))
        exact ⟨rfl, RDoes.same h (Nat.le_add_right _ _) (Nat.le_add_right _ _) (Ext.refl _ _)⟩
  · have hj5 : i = 0 ∨ i = 1 ∨ i = 2 ∨ i = 3 ∨ i = 4 ∨ (i = 5 ∨ i = 6 ∨ i = 7 ∨ i = 8 ∨ i = 9 ∨ i = 10 ∨ i = 11 ∨ i = 12 ∨ i = 13 ∨ i = 14 ∨ i = 15) := by omega
    rcases hj5 with rfl | rfl | rfl | rfl | rfl | hj5
    · skip
      have hone : W.one v = W.deliver (k.tmod W.fly.length) := by simp [WorldS.one, he, hqq, hf]
      rw [hone]
      (conv => whnf)
      refine hS.ld 0 rfl rfl ?_
      (conv => whnf)
      refine brD (fun h5 => absurd (show W.fly.length = 0 by omega) hf) (fun _ => ?_)
      (conv => whnf)
      refine hS.ld 0 rfl rfl ?_
      (conv => whnf)
      refine NzC.mk (by omega) ?_
      (conv => whnf)
      refine (rwdeliver_ok _ h).mono ?_
      rintro v1 w1 ⟨rfl, hX⟩
      repeat' ((conv => whnf); first | refine RetC.mk ?_ | refine NzC.mk (by decide) ?_ | refine RngC.mk (by omega) (by omega) ?_ | refine IdxC.mk (by omega) (by omega) ?_ | refine brD (fun _ => ?_) (fun _ => ?_) | refine brND (fun _ => ?_) (fun _ => ?_) | refine brN (fun _ => ?_) (fun _ => ?_) | refine brI (fun _ => ?_) (fun _ => ?_))
      exact ⟨rfl, hX.mono (by omega) (by omega)⟩
    · skip
      have hone : W.one v = W.deliver (k.tmod W.fly.length) := by simp [WorldS.one, he, hqq, hf]
      rw [hone]
      (conv => whnf)
      refine hS.ld 0 rfl rfl ?_
      (conv => whnf)
      refine brD (fun h5 => absurd (show W.fly.length = 0 by omega) hf) (fun _ => ?_)
      (conv => whnf)
      refine hS.ld 0 rfl rfl ?_
      (conv => whnf)
      refine NzC.mk (by omega) ?_
      (conv => whnf)
      refine (rwdeliver_ok _ h).mono ?_
      rintro v1 w1 ⟨rfl, hX⟩
      repeat' ((conv => whnf); first | refine RetC.mk ?_ | refine NzC.mk (by decide) ?_ | refine RngC.mk (by omega) (by omega) ?_ | refine IdxC.mk (by omega) (by omega) ?_ | refine brD (fun _ => ?_) (fun _ => ?_) | refine brND (fun _ => ?_) (fun _ => ?_) | refine brN (fun _ => ?_) (fun _ => ?_) | refine brI (fun _ => ?_) (fun _ => ?_))
      exact ⟨rfl, hX.mono (by omega) (by omega)⟩
    · skip
      have hone : W.one v = W.deliver (k.tmod W.fly.length) := by simp [WorldS.one, he, hqq, hf]
      rw [hone]
      (conv => whnf)
      refine hS.ld 0 rfl rfl ?_
      (conv => whnf)
      refine brD (fun h5 => absurd (show W.fly.length = 0 by omega) hf) (fun _ => ?_)
      (conv => whnf)
      refine hS.ld 0 rfl rfl ?_
      (conv => whnf)
      refine NzC.mk (by omega) ?_
      (conv => whnf)
      refine (rwdeliver_ok _ h).mono ?_
      rintro v1 w1 ⟨rfl, hX⟩
      repeat' ((conv => whnf); first | refine RetC.mk ?_ | refine NzC.mk (by decide) ?_ | refine RngC.mk (by omega) (by omega) ?_ | refine IdxC.mk (by omega) (by omega) ?_ | refine brD (fun _ => ?_) (fun _ => ?_) | refine brND (fun _ => ?_) (fun _ => ?_) | refine brN (fun _ => ?_) (fun _ => ?_) | refine brI (fun _ => ?_) (fun _ => ?_))
      exact ⟨rfl, hX.mono (by omega) (by omega)⟩
    · skip
      have hone : W.one v = W.drop (k.tmod W.fly.length) := by simp [WorldS.one, he, hqq, hf]
      rw [hone]
      (conv => whnf)
      refine hS.ld 0 rfl rfl ?_
      (conv => whnf)
      refine brD (fun h5 => absurd (show W.fly.length = 0 by omega) hf) (fun _ => ?_)
      (conv => whnf)
      refine hS.ld 0 rfl rfl ?_
      (conv => whnf)
      refine NzC.mk (by omega) ?_
      (conv => whnf)
      refine (rwdrop_ok _ h).mono ?_
      rintro v1 w1 ⟨rfl, hX⟩
      repeat' ((conv => whnf); first | refine RetC.mk ?_ | refine NzC.mk (by decide) ?_ | refine RngC.mk (by omega) (by omega) ?_ | refine IdxC.mk (by omega) (by omega) ?_ | refine brD (fun _ => ?_) (fun _ => ?_) | refine brND (fun _ => ?_) (fun _ => ?_) | refine brN (fun _ => ?_) (fun _ => ?_) | refine brI (fun _ => ?_) (fun _ => ?_))
      exact ⟨rfl, hX.mono (by omega) (by omega)⟩
    · skip
      have hone : W.one v = W.twice (k.tmod W.fly.length) := by simp [WorldS.one, he, hqq, hf]
      rw [hone]
      (conv => whnf)
      refine hS.ld 0 rfl rfl ?_
      (conv => whnf)
      refine brD (fun h5 => absurd (show W.fly.length = 0 by omega) hf) (fun _ => ?_)
      (conv => whnf)
      refine hS.ld 0 rfl rfl ?_
      (conv => whnf)
      refine NzC.mk (by omega) ?_
      (conv => whnf)
      refine (rwtwice_ok _ h).mono ?_
      rintro v1 w1 ⟨rfl, hX⟩
      repeat' ((conv => whnf); first | refine RetC.mk ?_ | refine NzC.mk (by decide) ?_ | refine RngC.mk (by omega) (by omega) ?_ | refine IdxC.mk (by omega) (by omega) ?_ | refine brD (fun _ => ?_) (fun _ => ?_) | refine brND (fun _ => ?_) (fun _ => ?_) | refine brN (fun _ => ?_) (fun _ => ?_) | refine brI (fun _ => ?_) (fun _ => ?_))
      exact ⟨rfl, hX.mono (by omega) (by omega)⟩
    · skip
      rcases hj5 with rfl | rfl | rfl | rfl | rfl | rfl | rfl | rfl | rfl | rfl | rfl
      · skip
        have hone : W.one v = W.tick (k.tmod 2) := by simp [WorldS.one, he, hqq]
        rw [hone]
        repeat' ((conv => whnf); first | refine RetC.mk ?_ | refine NzC.mk (by decide) ?_ | refine RngC.mk (by omega) (by omega) ?_ | refine IdxC.mk (by omega) (by omega) ?_ | (refine (rwtick_ok _ h (by omega) (by omega)).mono ?_; rintro v1 w1 ⟨rfl, hX⟩) | refine brD (fun _ => ?_) (fun _ => ?_) | refine brND (fun _ => ?_) (fun _ => ?_) | refine brN (fun _ => ?_) (fun _ => ?_) | refine brI (fun _ => ?_) (fun _ => ?_))
        exact ⟨rfl, hX.mono (by omega) (by omega)⟩
      · skip
        have hone : W.one v = W.tick (k.tmod 2) := by simp [WorldS.one, he, hqq]
        rw [hone]
        repeat' ((conv => whnf); first | refine RetC.mk ?_ | refine NzC.mk (by decide) ?_ | refine RngC.mk (by omega) (by omega) ?_ | refine IdxC.mk (by omega) (by omega) ?_ | (refine (rwtick_ok _ h (by omega) (by omega)).mono ?_; rintro v1 w1 ⟨rfl, hX⟩) | refine brD (fun _ => ?_) (fun _ => ?_) | refine brND (fun _ => ?_) (fun _ => ?_) | refine brN (fun _ => ?_) (fun _ => ?_) | refine brI (fun _ => ?_) (fun _ => ?_))
        exact ⟨rfl, hX.mono (by omega) (by omega)⟩
      · skip
        have hone : W.one v = W.ticks (k.tmod 2) 10 := by simp [WorldS.one, he, hqq]
        rw [hone]
        repeat' ((conv => whnf); first | refine RetC.mk ?_ | refine NzC.mk (by decide) ?_ | refine RngC.mk (by omega) (by omega) ?_ | refine IdxC.mk (by omega) (by omega) ?_ | (refine (rticks_ok _ 10 h (by omega) (by omega)).mono ?_; rintro v1 w1 ⟨rfl, hX⟩) | refine brD (fun _ => ?_) (fun _ => ?_) | refine brND (fun _ => ?_) (fun _ => ?_) | refine brN (fun _ => ?_) (fun _ => ?_) | refine brI (fun _ => ?_) (fun _ => ?_))
        exact ⟨rfl, hX.mono (by omega) (by omega)⟩
      · skip
        have hone : W.one v = ((W.inside (insideOf k)).1, (W.inside (insideOf k)).2.2) := by simp [WorldS.one, he, hqq]
        rw [hone]
        (conv => whnf)
        refine (rpinside_ok k hq0.1 (by omega) _).mono ?_
        rintro v1 w1 ⟨rfl, hx⟩
        (conv => whnf)
        refine (rinsideW_ok (insideOf k) (h.no hx) (by omega)).mono ?_
        rintro v1 w2 ⟨rfl, Y2, R2, hw2, hT2, h2⟩
        repeat' ((conv => whnf); first | refine RetC.mk ?_ | refine NzC.mk (by decide) ?_ | refine RngC.mk (by omega) (by omega) ?_ | refine IdxC.mk (by omega) (by omega) ?_ | refine brD (fun _ => ?_) (fun _ => ?_) | refine brND (fun _ => ?_) (fun _ => ?_) | refine brN (fun _ => ?_) (fun _ => ?_) | refine brI (fun _ => ?_) (fun _ => ?_))
        exact ⟨rfl, RDoes.mono ⟨Y2, R2, hw2, (Turns.of_no h.has hx).trans hT2, h2⟩ (by omega) (by omega)⟩
      · skip
        have hone : W.one v = ((W.inside (insideOf k)).1, (W.inside (insideOf k)).2.2) := by simp [WorldS.one, he, hqq]
        rw [hone]
        (conv => whnf)
        refine (rpinside_ok k hq0.1 (by omega) _).mono ?_
        rintro v1 w1 ⟨rfl, hx⟩
        (conv => whnf)
        refine (rinsideW_ok (insideOf k) (h.no hx) (by omega)).mono ?_
        rintro v1 w2 ⟨rfl, Y2, R2, hw2, hT2, h2⟩
        repeat' ((conv => whnf); first | refine RetC.mk ?_ | refine NzC.mk (by decide) ?_ | refine RngC.mk (by omega) (by omega) ?_ | refine IdxC.mk (by omega) (by omega) ?_ | refine brD (fun _ => ?_) (fun _ => ?_) | refine brND (fun _ => ?_) (fun _ => ?_) | refine brN (fun _ => ?_) (fun _ => ?_) | refine brI (fun _ => ?_) (fun _ => ?_))
        exact ⟨rfl, RDoes.mono ⟨Y2, R2, hw2, (Turns.of_no h.has hx).trans hT2, h2⟩ (by omega) (by omega)⟩
      · skip
        have hone : W.one v = ((W.outside (outsideOf k)).1, (W.outside (outsideOf k)).2.2) := by simp [WorldS.one, he, hqq]
        rw [hone]
        (conv => whnf)
        refine (rpoutside_ok k hq0.1 (by omega) _).mono ?_
        rintro v1 w1 ⟨rfl, hx⟩
        (conv => whnf)
        refine (routsideW_ok (outsideOf k) (h.no hx) (by omega)).mono ?_
        rintro v1 w2 ⟨rfl, Y2, R2, hw2, hT2, h2⟩
        repeat' ((conv => whnf); first | refine RetC.mk ?_ | refine NzC.mk (by decide) ?_ | refine RngC.mk (by omega) (by omega) ?_ | refine IdxC.mk (by omega) (by omega) ?_ | refine brD (fun _ => ?_) (fun _ => ?_) | refine brND (fun _ => ?_) (fun _ => ?_) | refine brN (fun _ => ?_) (fun _ => ?_) | refine brI (fun _ => ?_) (fun _ => ?_))
        exact ⟨rfl, RDoes.mono ⟨Y2, R2, hw2, (Turns.of_no h.has hx).trans hT2, h2⟩ (by omega) (by omega)⟩
      · skip
        have hone : W.one v = ((W.outside (outsideOf k)).1, (W.outside (outsideOf k)).2.2) := by simp [WorldS.one, he, hqq]
        rw [hone]
        (conv => whnf)
        refine (rpoutside_ok k hq0.1 (by omega) _).mono ?_
        rintro v1 w1 ⟨rfl, hx⟩
        (conv => whnf)
        refine (routsideW_ok (outsideOf k) (h.no hx) (by omega)).mono ?_
        rintro v1 w2 ⟨rfl, Y2, R2, hw2, hT2, h2⟩
        repeat' ((conv => whnf); first | refine RetC.mk ?_ | refine NzC.mk (by decide) ?_ | refine RngC.mk (by omega) (by omega) ?_ | refine IdxC.mk (by omega) (by omega) ?_ | refine brD (fun _ => ?_) (fun _ => ?_) | refine brND (fun _ => ?_) (fun _ => ?_) | refine brN (fun _ => ?_) (fun _ => ?_) | refine brI (fun _ => ?_) (fun _ => ?_))
        exact ⟨rfl, RDoes.mono ⟨Y2, R2, hw2, (Turns.of_no h.has hx).trans hT2, h2⟩ (by omega) (by omega)⟩
      · skip
        have hone : W.one v = W.down (k.tmod 2) := by simp [WorldS.one, he, hqq]
        rw [hone]
        repeat' ((conv => whnf); first | refine RetC.mk ?_ | refine NzC.mk (by decide) ?_ | refine RngC.mk (by omega) (by omega) ?_ | refine IdxC.mk (by omega) (by omega) ?_ | (refine (rdown_ok _ h).mono ?_; rintro v1 w1 ⟨rfl, hX⟩) | refine brD (fun _ => ?_) (fun _ => ?_) | refine brND (fun _ => ?_) (fun _ => ?_) | refine brN (fun _ => ?_) (fun _ => ?_) | refine brI (fun _ => ?_) (fun _ => ?_))
        exact ⟨rfl, hX.mono (by omega) (by omega)⟩
      · skip
        have hone : W.one v = W.up (k.tmod 2) := by simp [WorldS.one, he, hqq]
        rw [hone]
        repeat' ((conv => whnf); first | refine RetC.mk ?_ | refine NzC.mk (by decide) ?_ | refine RngC.mk (by omega) (by omega) ?_ | refine IdxC.mk (by omega) (by omega) ?_ | (refine (rcome_ok _ h (by omega)).mono ?_; rintro v1 w1 ⟨rfl, hX⟩) | refine brD (fun _ => ?_) (fun _ => ?_) | refine brND (fun _ => ?_) (fun _ => ?_) | refine brN (fun _ => ?_) (fun _ => ?_) | refine brI (fun _ => ?_) (fun _ => ?_))
        exact ⟨rfl, hX.mono (by omega) (by omega)⟩
      · skip
        have hone : W.one v = W.cut (k.tmod 2) ((k.tdiv 2).tmod 30) := by simp [WorldS.one, he, hqq]
        rw [hone]
        repeat' ((conv => whnf); first | refine RetC.mk ?_ | refine NzC.mk (by decide) ?_ | refine RngC.mk (by omega) (by omega) ?_ | refine IdxC.mk (by omega) (by omega) ?_ | (refine (rcut_ok _ _ (by omega) h).mono ?_; rintro v1 w1 ⟨rfl, hX⟩) | refine brD (fun _ => ?_) (fun _ => ?_) | refine brND (fun _ => ?_) (fun _ => ?_) | refine brN (fun _ => ?_) (fun _ => ?_) | refine brI (fun _ => ?_) (fun _ => ?_))
        exact ⟨rfl, hX.mono (by omega) (by omega)⟩
      · have hone : W.one v = (0, W) := by simp [WorldS.one, he]
        rw [hone]
        repeat' ((conv => whnf); first | refine RetC.mk ?_ | refine NzC.mk (by decide) ?_ | refine RngC.mk (by omega) (by omega) ?_ | refine IdxC.mk (by omega) (by omega) ?_ | refine brD (fun _ => ?_) (fun _ => ?_) | refine brND (fun _ => ?_) (fun _ => ?_) | refine brN (fun _ => ?_) (fun _ => ?_) | refine brI (fun _ => ?_) (fun _ => ?_))
        exact ⟨rfl, RDoes.same h (Nat.le_add_right _ _) (Nat.le_add_right _ _) (Ext.refl _ _)⟩
end
end Go.Proofs.YtoaghhcjlfiflaaGreatDoor

namespace Go.Proofs.YtoaghhcjlfiflaaGreatDoor
open Go Ev
section
variable {w w' w0 : World} {Y : RWorldA} {W : WorldS} {R : RBys} {m j : Nat}
set_option maxRecDepth 100000 in
theorem rrun_ok {a : Option Addr} {n c : Nat} {xs : List Int} (hx : Slc w0 1 encI (fun v => v ≤ 9223372036854775807) a n xs) (hn : n ≤ 300) (h : RStands w0 m j w Y W R) (hm : m + n * 340 ≤ 40000000) (hjj : j + n * 180 ≤ 50000000) :
    CallC Tryz.prog 40 #[.pointer (some ⟨Y.w, 0, none⟩), .slice a n c] w fun v w' => ∃ a' c' Y' R', v = .slice a' n c' ∧ Y'.w = Y.w ∧ Turns w w' (rworldH Y W R) (ownL 3 1 encI v (W.run xs).1 :: rworldH Y' (W.run xs).2 R') ∧ RStands w0 (m + n * 340) (j + n * 180) w' Y' (W.run xs).2 R' := by
  have hl := hx.len
  refine fn_intro tabOk Tryz.func40 (by kernel_rfl) rfl Tryz.ntmps40 (Nat.le_of_ble_eq_true rfl) ?_
  have hS : St w (inF (rworldH Y W R)) w ([ownL 3 1 encI (.slice none 0 0) []] ++ rworldH Y W R) := (h.has.start.addNil 3 1 encI).perm (List.perm_append_comm)
  (conv => whnf)
  refine loopR tabOk (fun σ w' r => ∃ (k : Nat) (a' : Option Addr) (c' : Nat) (Y' : RWorldA) (R' : RBys), σ = [(6, .int .i64 k), (5, .slice a' k c'), (1, .slice a n c), (0, .pointer (some ⟨Y.w, 0, none⟩))] ∧ r = n - k ∧ k ≤ n ∧ Y'.w = Y.w ∧ RStands w0 (m + k * 340) (j + k * 180) w' Y' (W.run (xs.take k)).2 R' ∧ St w (inF (rworldH Y W R)) w' ([ownL 3 1 encI (.slice a' k c') (W.run (xs.take k)).1] ++ rworldH Y' (W.run (xs.take k)).2 R'))
    (σ' := [(6, .int .i64 ((0 : Nat) : Int)), (5, .slice none 0 0), (1, .slice a n c), (0, .pointer (some ⟨Y.w, 0, none⟩))]) (n := n) ⟨rfl, rfl, rfl, rfl, trivial⟩ ⟨0, none, 0, Y, R, rfl, rfl, Nat.zero_le _, rfl, by simpa [WorldS.run] using h, hS⟩ ?_
  clear hS
  rintro _ w1 r ⟨k, a', c', Y', R', rfl, rfl, hk, hw, hst, hS⟩
  (conv => whnf)
  refine brD (fun h3 => ?_) (fun h3 => ?_)
  · have hx2 := hx.no hst.ext
    obtain ⟨b0, o0, v, hv, hvb, rfl, hb0, hcv⟩ := hx2.at (k := k) (by omega)
    have hstep := run_take (W := W) hv
    have hrl : (W.run (xs.take k)).1.length = k := by rw [run_len, List.length_take]; omega
    generalize W.run (xs.take k) = Q at *
    (conv => whnf)
    refine brD (fun _ => ?_) (fun h => absurd (show (k : Int) < 3000 by omega) h)
    (conv => whnf)
    refine IdxC.mk (by omega) (by omega) ?_
    (conv => whnf)
    refine ldc (hcv.one 0 rfl) ?_
    (conv => whnf)
    rw [← hw]
    refine (rone_ok v hvb hst (by omega) (by omega)).mono ?_
    rintro v1 w2 ⟨rfl, Y2, R2, hw2, hT2, h2⟩
    replace hS := St.callAt (A := [_]) (B := []) (H := rworldH Y' Q.2 R') (by simpa using hS) hT2
    rw [List.append_nil] at hS
    (conv => whnf)
    refine hS.lit Tryz.underlying62 (sz := 1) (by kernel_rfl) (z := .int .i64 0) (by kernel_rfl) rfl rfl (cs := encI (Q.2.say v).1) (by rfl) (fun b9 w4 hb9 hS => ?_)
    replace hS := hS.perm List.perm_append_comm
    (conv => whnf)
    refine hS.appS codInt 1 (ys := [(Q.2.say v).1]) (G := fun _ => True) Tryz.underlying62 (bytes := 8) (by kernel_rfl) (z := .int .i64 0) (by kernel_rfl) rfl rfl (Slc.of_blk codInt (hS.blk 0 rfl) rfl (by simp) (fun _ _ => trivial) rfl) (by rw [hrl]; unfold maxLen; omega) (by rw [hrl]; omega) (fun a2 c2 w5 hS => ?_)
    rw [hrl] at hS ⊢
    replace hS := (hS.as (H' := [_] ++ ([ownL 3 1 encI (.slice a2 (k + 1) c2) (Q.1 ++ [(Q.2.say v).1])] ++ rworldH Y2 (Q.2.say v).2 R2)) rfl).weaken (List.sublist_append_right _ _)
    have hT9 : Turns w w5 (rworldH Y W R) (rworldH Y2 (Q.2.say v).2 R2) := ⟨hS.ext, hS.has.right, fun e he b hb => (hS.may e (List.mem_append_right _ he) b hb).1⟩
    have h9 := h.turns hT9 h2.ok h2.rules h2.a h2.b
    (conv => whnf)
    refine RngC.mk (by omega) (by omega) ?_
    (conv => whnf)
    refine LoopE.mk ⟨_, [(6, .int .i64 ((k + 1 : Nat) : Int)), (5, .slice a2 (k + 1) c2), (1, _), (0, _)], ?_, ⟨rfl, rfl, rfl, rfl, trivial⟩, ⟨k + 1, a2, c2, Y2, R2, rfl, rfl, by omega, hw2, ?_, ?_⟩⟩
    · omega
    · rw [hstep, show m + (k + 1) * 340 = m + k * 340 + 340 by omega, show j + (k + 1) * 180 = j + k * 180 + 180 by omega]
      exact h9
    · rw [hstep]
      exact hS
  · obtain rfl : k = n := by omega
    rw [List.take_of_length_le (by omega)] at hS hst
    repeat' ((conv => whnf); first | refine RetC.mk ?_ | refine NzC.mk (by decide) ?_ | refine RngC.mk (by omega) (by omega) ?_ | refine IdxC.mk (by omega) (by omega) ?_ | refine brD (fun _ => ?_) (fun _ => ?_) | refine brND (fun _ => ?_) (fun _ => ?_) | refine brN (fun _ => ?_) (fun _ => ?_) | refine brI (fun _ => ?_) (fun _ => ?_))
    exact ⟨a', c', Y', R', rfl, hw, St.turns hS, hst⟩
set_option maxRecDepth 10000 in
theorem rsettle_ok (n : Int) (h : RStands w0 m j w Y W R) (hm : m + 34 * 24 ≤ 40000000) (hjj : j + 18 * 24 ≤ 50000000) : CallC Tryz.prog 42 #[.pointer (some ⟨Y.w, 0, none⟩), .int .i64 n] w fun v w' => v = .int .i64 ((W.settle n 24).1 : Nat) ∧ RDoes w0 (m + 34 * 24) (j + 18 * 24) w Y W R (W.settle n 24).2 w' := by
  refine fn_intro tabOk Tryz.func42 (by kernel_rfl) rfl Tryz.ntmps42 (Nat.le_of_ble_eq_true rfl) ?_
  (conv => whnf)
  refine RngC.mk (by decide) (by decide) ?_
  (conv => whnf)
  refine loopR tabOk (fun σ w' r => ∃ (i : Nat) (W' : WorldS), σ = [(6, .int .i64 i), (5, .int .i64 8), (1, .int .i64 n), (0, .pointer (some ⟨Y.w, 0, none⟩))] ∧ r = 24 - i ∧ i ≤ 24 ∧ RDoes w0 (m + 34 * i) (j + 18 * i) w Y W R W' w' ∧ W.settle n 24 = W'.settle n (24 - i))
    (σ' := [(6, .int .i64 ((0 : Nat) : Int)), (5, .int .i64 8), (1, .int .i64 n), (0, .pointer (some ⟨Y.w, 0, none⟩))]) (n := 24) ⟨rfl, rfl, rfl, rfl, trivial⟩ ⟨0, W, rfl, rfl, Nat.zero_le _, RDoes.same h (Nat.le_refl _) (Nat.le_refl _) (Ext.refl _ _), rfl⟩ ?_
  rintro _ w1 r ⟨i, W', rfl, rfl, hi, ⟨Y1, R1, hw, hT, h1⟩, hr⟩
  (conv => whnf)
  refine RngC.mk (by decide) (by decide) ?_
  (conv => whnf)
  refine brD (fun h3 => ?_) (fun h3 => ?_)
  · obtain ⟨l, hl⟩ : ∃ l, 24 - i = l + 1 := ⟨24 - i - 1, by omega⟩
    rw [hl] at hr
    (conv => whnf)
    rw [← hw]
    refine (rwtick_ok n h1 (by omega) (by omega)).mono ?_
    rintro v w2 ⟨rfl, Y2, R2, hw2, hT2, h2⟩
    cases he : (W'.tick n).1 with
    | succ e =>
      have hr2 : W.settle n 24 = W'.tick n := by
        rw [hr]
        show (if (W'.tick n).1 ≠ 0 then _ else _) = _
        rw [if_pos (by rw [he]; exact Nat.succ_ne_zero e)]
      (conv => whnf)
      refine brD (fun _ => ?_) (fun h => absurd h (by omega))
      repeat' ((conv => whnf); first | refine RetC.mk ?_ | refine NzC.mk (by decide) ?_ | refine RngC.mk (by omega) (by omega) ?_ | refine IdxC.mk (by omega) (by omega) ?_ | refine brD (fun _ => ?_) (fun _ => ?_) | refine brND (fun _ => ?_) (fun _ => ?_) | refine brN (fun _ => ?_) (fun _ => ?_) | refine brI (fun _ => ?_) (fun _ => ?_))
      rw [hr2]
      exact ⟨by rw [he], RDoes.mono ⟨Y2, R2, hw2.trans hw, hT.trans hT2, h2⟩ (by omega) (by omega)⟩
    | zero =>
      have hr2 : W.settle n 24 = ((W'.tick n).2.land (W'.tick n).2.fly.length).settle n l := by
        rw [hr]
        show (if (W'.tick n).1 ≠ 0 then _ else _) = _
        rw [if_neg (fun h => h he)]
      have hd : RDoes w0 (m + 34 * i + 34) (j + 18 * i + 18) w Y W R (W'.tick n).2 w2 := ⟨Y2, R2, hw2.trans hw, hT.trans hT2, h2⟩
      rw [hw]
      clear h1 hT hT2 h2 hw2 hw
      generalize (W'.tick n).2 = V at hr2 hd
      (conv => whnf)
      refine loopR tabOk (fun σ w' r => ∃ (V4 : WorldS), σ = [(6, .int .i64 i), (5, .int .i64 8), (1, .int .i64 n), (0, .pointer (some ⟨Y.w, 0, none⟩))] ∧ r = V4.fly.length ∧ RDoes w0 (m + 34 * i + 34) (j + 18 * i + 18) w Y W R V4 w' ∧ V.land V.fly.length = V4.land V4.fly.length)
        (σ' := [(6, .int .i64 i), (5, .int .i64 8), (1, .int .i64 n), (0, .pointer (some ⟨Y.w, 0, none⟩))]) (n := V.fly.length) ⟨rfl, rfl, rfl, rfl, trivial⟩ ⟨V, rfl, rfl, hd, rfl⟩ ?_
      clear hd
      rintro _ w4 r ⟨V4, rfl, rfl, ⟨Y4, R4, hw4, hT4, h4⟩, hr4⟩
      have hS := h4.has.start
      rw [← hw4]
      (conv => whnf)
      refine hS.ld 0 rfl rfl ?_
      (conv => whnf)
      refine brD (fun h5 => ?_) (fun h5 => ?_)
      · obtain ⟨p, hf⟩ : ∃ p, V4.fly.length = p + 1 := ⟨V4.fly.length - 1, by omega⟩
        obtain ⟨hd1, hd2⟩ := deliver0 hf
        (conv => whnf)
        refine (rwdeliver_ok 0 h4).mono ?_
        rintro v w5 ⟨rfl, Y5, R5, hw5, hT5, h5⟩
        rw [hw4]
        (conv => whnf)
        refine LoopE.mk ⟨_, [(6, _), (5, _), (1, _), (0, .pointer (some ⟨Y.w, 0, none⟩))], ?_, ⟨rfl, rfl, rfl, rfl, trivial⟩, ⟨(V4.deliver 0).2, rfl, rfl, ⟨Y5, R5, hw5.trans hw4, hT4.trans hT5, h5⟩, ?_⟩⟩
        · omega
        · rw [hr4, hf, hd2]
          show (if V4.fly.length = 0 then _ else _) = _
          rw [if_neg (by omega)]
      · have hf : V4.fly.length = 0 := by omega
        rw [hw4]
        (conv => whnf)
        refine RngC.mk (by omega) (by omega) ?_
        (conv => whnf)
        refine LoopE.mk ⟨_, [(6, .int .i64 ((i + 1 : Nat) : Int)), (5, _), (1, _), (0, .pointer (some ⟨Y.w, 0, none⟩))], ?_, ⟨rfl, rfl, rfl, rfl, trivial⟩, ⟨i + 1, V4, rfl, rfl, by omega, RDoes.mono ⟨Y4, R4, hw4, hT4, h4⟩ (by omega) (by omega), ?_⟩⟩
        · omega
        · rw [hr2, hr4, hf]
          show V4.settle n l = V4.settle n (24 - (i + 1))
          congr 1
          omega
  · obtain rfl : i = 24 := by omega
    repeat' ((conv => whnf); first | refine RetC.mk ?_ | refine NzC.mk (by decide) ?_ | refine RngC.mk (by omega) (by omega) ?_ | refine IdxC.mk (by omega) (by omega) ?_ | refine brD (fun _ => ?_) (fun _ => ?_) | refine brND (fun _ => ?_) (fun _ => ?_) | refine brN (fun _ => ?_) (fun _ => ?_) | refine brI (fun _ => ?_) (fun _ => ?_))
    rw [hr]
    exact ⟨rfl, Y1, R1, hw, hT, h1⟩
end
end Go.Proofs.YtoaghhcjlfiflaaGreatDoor

namespace Go.Proofs.YtoaghhcjlfiflaaGreatDoor
open Go Ev
section
variable {w : World}
theorem asNode_ok {w0 : World} {S : Nat → Prop} {m : Nat} {A : NodeA} {A' : RNodeA} {N : NodeS} {R : RBy} {B : BytS} (hS0 : St w0 S w (nodeB A N B ++ rnodeH A' N R)) (hO : NOk m N) :
    CallC Tryz.prog 79 #[.pointer (some ⟨A.n, 0, none⟩), .pointer (some ⟨A'.n, 0, none⟩)] w fun v w' => v = .int .i64 1 ∧ Ext No w w' := by
  have hS : St w (inF (nodeB A N B ++ rnodeH A' N R)) w (nodeB A N B ++ rnodeH A' N R) := hS0.has.start
  refine fn_intro tabOk Tryz.func79 (by kernel_rfl) rfl Tryz.ntmps79 (Nat.le_of_ble_eq_true rfl) ?_
  (conv => whnf)
  (refine drawS tabOk mixed [] (No) [0, 1, 2, 3, 5, 6, 7, 8, 9, 10, 11, 4, 12, 13, 14, 15, 16, 17, 19, 20, 21, 22, 23, 24, 25, 18, 26, 27, 28, 29, 31, 32, 33, 34, 35, 36, 37, 30, 38, 39, 40, 41, 43, 44, 45, 46, 42, 47, 48] (by kernel_rfl) ?_; rintro w1 rfl; replace hS := hS.drew)
  have hK := hS.ref No
  have h1 := hS
  repeat' ((conv => whnf); first | refine hS.ldF 0 rfl rfl id ?_ | refine hS.ldF 8 rfl rfl id ?_ | refine hS.ldF 9 rfl rfl id ?_)
  refine (role_active (hS.blk 1 rfl)).mono ?_
  rintro v w2 ⟨rfl, rfl⟩
  refine KeepC.mk hK ?_
  (conv => whnf)
  rw [show (!(N.role.active == N.role.active)) = false by cases N.role.active <;> rfl]
  (conv => whnf)
  repeat' ((conv => whnf); first | refine hS.ldF 0 rfl rfl id ?_ | refine hS.ldF 8 rfl rfl id ?_ | refine hS.ldF 9 rfl rfl id ?_)
  refine (role_epoch (hS.blk 1 rfl)).mono ?_
  rintro v w2 ⟨rfl, rfl⟩
  refine KeepC.mk hK ?_
  (conv => whnf)
  refine brND (fun h => absurd rfl h) (fun _ => ?_)
  repeat' ((conv => whnf); first | refine hS.ldF 8 rfl rfl id ?_ | refine hS.ldF 10 rfl rfl id ?_)
  refine (nlife_ok (N := N) (hS.has.left.left)).mono ?_
  rintro v w3 ⟨rfl, hx⟩
  replace hS := hS.no hx
  replace hK := hK.trans hx
  refine KeepC.mk hK ?_
  (conv => whnf)
  refine brND (fun h => absurd rfl h) (fun _ => ?_)
  repeat' ((conv => whnf); first | refine h1.ldF 8 rfl rfl id ?_)
  refine (nnow_ok (N := N) (hS.has.left.left)).mono ?_
  rintro v w4 ⟨rfl, rfl⟩
  refine KeepC.mk hK ?_
  (conv => whnf)
  refine brND (fun h => absurd rfl h) (fun _ => ?_)
  have hK1 := hK
  clear h1 hK hx
  (conv => whnf)
  (refine drawS tabOk mixed [] (No) [0, 2, 3, 4, 5, 6, 7, 8, 1, 9, 10, 11, 12, 14, 15, 16, 17, 18, 19, 20, 13, 21, 22, 23] (by kernel_rfl) ?_; rintro w1 rfl; replace hS := hS.drew)
  have hK := hS.ref No
  have h1 := hS
  repeat' ((conv => whnf); first | refine hS.ldF 8 rfl rfl id ?_ | refine ldFc (refT_l (hS.get 11 rfl)) id ?_)
  refine (ntable_ok (N := N) (hS.has.left.left) hO.tab.len).mono ?_
  rintro v w5 ⟨a1, c1, rfl, hx, ho, hf⟩
  replace hS := hS.no hx
  replace hK := hK.trans hx
  refine KeepC.mk hK ?_
  (conv => whnf)
  refine (sameCells_same (G := fun _ => True) (ownL_slc codCell ho fun _ _ => trivial) (refT_slc (hS.get 11 rfl))).mono ?_
  rintro v w6 ⟨rfl, hx6⟩
  replace hS := hS.no hx6
  replace hK := hK.trans hx6
  refine KeepC.mk hK ?_
  clear hx ho hf hx6
  repeat' ((conv => whnf); first | refine h1.ldF 8 rfl rfl id ?_ | refine ldFc ((h1.get 13 rfl).2.1.cell 1) id ?_)
  refine (nmirror_ok (N := N) (hS.has.left.left) hO.mir).mono ?_
  rintro v w7 ⟨a2, c2, rfl, hx, ho, hf⟩
  replace hS := hS.no hx
  replace hK := hK.trans hx
  refine KeepC.mk hK ?_
  (conv => whnf)
  refine (sameCells_same (G := fun _ => True) (ownL_slc codCell ho fun _ _ => trivial) (ownL_slc codCell (hS.get 13 rfl).2.2 fun _ _ => trivial)).mono ?_
  rintro v w8 ⟨rfl, hx8⟩
  replace hS := hS.no hx8
  replace hK := hK.trans hx8
  refine KeepC.mk hK ?_
  repeat' ((conv => whnf); first | refine RetC.mk ?_ | refine NzC.mk (by decide) ?_ | refine RngC.mk (by omega) (by omega) ?_ | refine IdxC.mk (by omega) (by omega) ?_ | refine brD (fun _ => ?_) (fun _ => ?_) | refine brND (fun _ => ?_) (fun _ => ?_) | refine brN (fun _ => ?_) (fun _ => ?_) | refine brI (fun _ => ?_) (fun _ => ?_))
  exact ⟨rfl, ((Ext.drawn No _ _).trans hK1).trans ((Ext.drawn No _ _).trans hK)⟩
end
end Go.Proofs.YtoaghhcjlfiflaaGreatDoor

namespace Go.Proofs.YtoaghhcjlfiflaaGreatDoor
open Go Ev
section
variable {w w' w0 : World} {X : WorldA} {Y : RWorldA} {W : WorldS} {R : RBys} {m j q : Nat} {E : Nat → Addr}
theorem coded3_ok {E : Nat → Addr} {n : Nat} (k : Nat) (c : Int) (hk : k < 12) (w : World) (hE : Errs w E n allErrs) (hh : Handle w) :
    CallC Tryz.prog 41 #[errV E k, .int .i64 c] w fun v w' => v = .bool (decide ((k : Int) = c)) ∧ Ext No w w' := by
  refine fn_intro tabOk Tryz.func41 (by kernel_rfl) rfl Tryz.ntmps41 (Nat.le_of_ble_eq_true rfl) ?_
  (conv => whnf)
  refine (code_ok k hk w hE hh).mono ?_
  rintro v w' ⟨rfl, hx⟩
  repeat' ((conv => whnf); first | refine RetC.mk ?_ | refine NzC.mk (by decide) ?_ | refine RngC.mk (by omega) (by omega) ?_ | refine IdxC.mk (by omega) (by omega) ?_ | refine brD (fun _ => ?_) (fun _ => ?_) | refine brND (fun _ => ?_) (fun _ => ?_) | refine brN (fun _ => ?_) (fun _ => ?_) | refine brI (fun _ => ?_) (fun _ => ?_))
  all_goals refine ⟨?_, hx⟩
  all_goals simp [*]
theorem coded3_same {E : Nat → Addr} {n : Nat} (k : Nat) (hk : k < 12) (w : World) (hE : Errs w E n allErrs) (hh : Handle w) :
    CallC Tryz.prog 41 #[errV E k, .int .i64 k] w fun v w' => v = .bool true ∧ Ext No w w' := by
  have h := coded3_ok k k hk w hE hh
  rwa [decide_eq_true rfl] at h
theorem side_pair (h : Has w (worldH X W ++ rworldH Y W R)) {n : Int} (hn : n = 0 ∨ n = 1) {N : NodeS} (hN : (W.side n).node = some N) : Has w (nodeB (X.side n).A N (W.side n).byt ++ rnodeH (Y.side n) N (R.side n)) := by
  have h1 := h.perm (List.Perm.append (view_perm X W hn) (rhalf_perm Y W R hn))
  refine h1.sub (List.Sublist.append ?_ ?_)
  · have h2 : nodeB (X.side n).A N (W.side n).byt = sideH (X.side n) (W.side n) := by unfold sideH; rw [hN]
    rw [h2]
    exact (List.sublist_append_left _ _).trans (List.sublist_append_right _ _)
  · rw [← rsideH_some (A := Y.side n) (B := R.side n) hN]
    exact (List.sublist_append_right _ _).trans (List.sublist_append_left _ _)
set_option maxRecDepth 10000 in
set_option maxHeartbeats 1000000 in
theorem asWorld_ok (hH : Has w (worldH X W ++ rworldH Y W R)) (hX : Stands E q m w X W) (hY : RStands w0 m j w Y W R) (hC : Codes E q w) :
    CallC Tryz.prog 32 #[.pointer (some ⟨X.w, 0, none⟩), .pointer (some ⟨Y.w, 0, none⟩)] w fun v w' => v = .bool true ∧ Ext No w w' := by
  refine fn_intro tabOk Tryz.func32 (by kernel_rfl) rfl Tryz.ntmps32 (Nat.le_of_ble_eq_true rfl) ?_
  (conv => whnf)
  refine (wswitch_ok hX.has).mono ?_
  rintro v w1 ⟨rfl, hx⟩
  have hS : St w1 (inF (rworldH Y W R)) w1 (rworldH Y W R) := (hY.no hx).has.start
  (conv => whnf)
  (refine drawS tabOk mixed [] (No) [0, 1, 2, 3, 4, 5, 6, 7, 8, 9, 10, 11, 12, 13, 14, 15, 18, 19, 20, 21, 16, 17, 22, 23, 24, 25, 26, 29, 30, 31, 32, 27, 28, 33, 34, 35] (by kernel_rfl) ?_; rintro w1 rfl; replace hS := hS.drew)
  have hK := hS.ref No
  have hS1 := hS
  have hX1 := hX.no (hx.trans (Ext.drawn No w1 (w1.drawn + 1)))
  (conv => whnf)
  refine hS1.ldF 0 rfl rfl id ?_
  (conv => whnf)
  refine brND (fun h => absurd rfl h) (fun _ => ?_)
  (conv => whnf)
  refine hS1.ldF 0 rfl rfl id ?_
  (conv => whnf)
  refine brND (fun h => absurd rfl h) (fun _ => ?_)
  (conv => whnf)
  refine hS1.ldF 0 rfl rfl id ?_
  (conv => whnf)
  refine (wevents_ok hX1).mono ?_
  rintro v w2 ⟨a1, c1, rfl, hx2, ho, hf⟩
  replace hS := hS.no hx2
  replace hK := hK.trans hx2
  refine KeepC.mk hK ?_
  (conv => whnf)
  refine (backEvents_ok (G := fun _ => True) (ownL_slc codEv ho fun _ _ => trivial) (by have := hX.ok.events; omega)).mono ?_
  rintro v w3 ⟨a2, c2, rfl, hx3, ho3, hf3⟩
  replace hS := hS.no hx3
  replace hK := hK.trans hx3
  refine KeepC.mk hK ?_
  (conv => whnf)
  refine (sameEvents_ok (G := fun _ => True) (G' := fun _ => True) (ownL_slc codEv ho3 fun _ _ => trivial) (ownL_slc codEv (hS.get 5 rfl) fun _ _ => trivial)).mono ?_
  rintro v w4 ⟨rfl, hx4⟩
  replace hS := hS.no hx4
  replace hK := hK.trans hx4
  refine KeepC.mk hK ?_
  clear ho hf ho3 hf3
  have hX4 := hX1.no ((hx2.trans hx3).trans hx4)
  (conv => whnf)
  refine hS1.ldF 0 rfl rfl id ?_
  (conv => whnf)
  refine (wflying_ok hX4).mono ?_
  rintro v w5 ⟨a3, c3, vs3, rfl, hx5, ho5⟩
  replace hS := hS.no hx5
  replace hK := hK.trans hx5
  refine KeepC.mk hK ?_
  (conv => whnf)
  refine (backNotes_ok (G := fun _ => True) (ownL_slc codNote (ho5.get 0 rfl) fun _ _ => trivial) (by have := hX.ok.fly; omega)).mono ?_
  rintro v w6 ⟨a4, c4, rfl, hx6, ho6, hf6⟩
  replace hS := hS.no hx6
  replace hK := hK.trans hx6
  refine KeepC.mk hK ?_
  (conv => whnf)
  refine (sameNotes_ok (G := fun _ => True) (ownL_slc codNote ho6 fun _ _ => trivial) (ownL_slc codNote (hS.get 3 rfl) fun _ _ => trivial) (same_cells ((ho5.start.no hx6).get 1 rfl) (hS.get 4 rfl))).mono ?_
  rintro v w7 ⟨rfl, hx7⟩
  replace hS := hS.no hx7
  replace hK := hK.trans hx7
  refine KeepC.mk hK ?_
  clear ho5 ho6 hf6
  have hx0 : Ext No w w7 := (hx.trans (Ext.drawn No _ _)).trans hK
  clear hK hX4 hX1 hS1 hx hx2 hx3 hx4 hx5 hx6 hx7 hS
  (conv => whnf)
  refine loopR tabOk (fun σ w' r => ∃ (k : Nat), σ = [(7, .int .i64 k), (1, .pointer (some ⟨Y.w, 0, none⟩)), (0, .pointer (some ⟨X.w, 0, none⟩))] ∧ r = 2 - k ∧ k ≤ 2 ∧ Ext No w w')
    (σ' := [(7, .int .i64 ((0 : Nat) : Int)), (1, .pointer (some ⟨Y.w, 0, none⟩)), (0, .pointer (some ⟨X.w, 0, none⟩))]) (n := 2) ⟨rfl, rfl, rfl, trivial⟩ ⟨0, rfl, rfl, Nat.zero_le _, hx0⟩ ?_
  clear hx0
  rintro _ w1 r ⟨k, rfl, rfl, hk, hx⟩
  (conv => whnf)
  refine brD (fun h3 => ?_) (fun h3 => ?_)
  · have hn : (k : Int) = 0 ∨ (k : Int) = 1 := by omega
    (conv => whnf)
    refine (wnode_ok (k : Int) (hX.no hx)).mono ?_
    rintro v w2 ⟨rfl, hx2⟩
    replace hx := hx.trans hx2
    have hS := ((hY.no hx).half hn).start
    cases hN : (W.side k).node with
    | none =>
      rw [upErr_none hn hN]
      rw [rhalf_down hN] at hS
      obtain ⟨g, hg⟩ := two_own (hS.get 1 rfl)
      (conv => whnf)
      refine hS.ld 0 rfl (v := .slice (some ⟨g, 0, none⟩) 2 Y.nc) (by rw [← hg]; rfl) ?_
      (conv => whnf)
      refine IdxC.mk (by omega) (by omega) ?_
      (conv => whnf)
      refine hS.ldTwo 1 hn (by rw [← hg]; rfl) rfl ?_
      (conv => whnf)
      refine (coded3_same 7 (by decide) _ (hC.no hx).errs (hC.no hx).handle).mono ?_
      rintro v w3 ⟨rfl, hx3⟩
      replace hx := hx.trans hx3
      (conv => whnf)
      refine RngC.mk (by omega) (by omega) ?_
      (conv => whnf)
      refine LoopE.mk ⟨_, [(7, .int .i64 ((k + 1 : Nat) : Int)), (1, _), (0, _)], ?_, ⟨rfl, rfl, rfl, trivial⟩, ⟨k + 1, rfl, rfl, by omega, hx⟩⟩
      omega
    | some N =>
      rw [upErr_some hn hN]
      rw [rhalf_up hN] at hS
      obtain ⟨g, hg⟩ := two_own (hS.get 1 rfl)
      (conv => whnf)
      refine hS.ld 0 rfl (v := .slice (some ⟨g, 0, none⟩) 2 Y.nc) (by rw [← hg]; rfl) ?_
      (conv => whnf)
      refine IdxC.mk (by omega) (by omega) ?_
      (conv => whnf)
      refine hS.ldTwo 1 hn (by rw [← hg]; rfl) rfl ?_
      (conv => whnf)
      refine hS.ld 0 rfl (v := .slice (some ⟨g, 0, none⟩) 2 Y.nc) (by rw [← hg]; rfl) ?_
      (conv => whnf)
      refine IdxC.mk (by omega) (by omega) ?_
      (conv => whnf)
      refine hS.ldTwo 1 hn (by rw [← hg]; rfl) rfl ?_
      (conv => whnf)
      refine (asNode_ok (side_pair ((hH.start.no hx).has) hn hN).start ((hX.ok.side hn).node N hN).1).mono ?_
      rintro v w3 ⟨rfl, hx3⟩
      replace hx := hx.trans hx3
      (conv => whnf)
      refine RngC.mk (by omega) (by omega) ?_
      (conv => whnf)
      refine LoopE.mk ⟨_, [(7, .int .i64 ((k + 1 : Nat) : Int)), (1, _), (0, _)], ?_, ⟨rfl, rfl, rfl, trivial⟩, ⟨k + 1, rfl, rfl, by omega, hx⟩⟩
      omega
  · (conv => whnf)
    refine (wnode_ok 2 (hX.no hx)).mono ?_
    rintro v w2 ⟨rfl, hx2⟩
    replace hx := hx.trans hx2
    rw [show W.upErr 2 = 2 from rfl]
    (conv => whnf)
    refine (coded3_same 2 (by decide) _ (hC.no hx).errs (hC.no hx).handle).mono ?_
    rintro v w3 ⟨rfl, hx3⟩
    repeat' ((conv => whnf); first | refine RetC.mk ?_ | refine NzC.mk (by decide) ?_ | refine RngC.mk (by omega) (by omega) ?_ | refine IdxC.mk (by omega) (by omega) ?_ | refine brD (fun _ => ?_) (fun _ => ?_) | refine brND (fun _ => ?_) (fun _ => ?_) | refine brN (fun _ => ?_) (fun _ => ?_) | refine brI (fun _ => ?_) (fun _ => ?_))
    exact ⟨rfl, hx.trans hx3⟩
end
end Go.Proofs.YtoaghhcjlfiflaaGreatDoor

namespace Go.Proofs.YtoaghhcjlfiflaaGreatDoor
open Go Ev
section
variable {w w' w0 w1 : World} {X : WorldA} {Y : RWorldA} {W : WorldS} {R : RBys} {m j q : Nat} {E : Nat → Addr} {P L H H' : List Ent} {e : Ent} {S : Nat → Prop}
theorem St.rstands (hS : St w0 No w (P ++ (L ++ rworldH Y W R))) (h : RStands w0 m j w1 Y W R) : RStands w0 m j w Y W R :=
  ⟨hS.has.right.right, h.ok, hS.ext, fun _ hb => hS.new_high (inF_app.2 (.inr (inF_app.2 (.inr hb)))), h.rules, h.a, h.b⟩
theorem St.callLast (h : St w0 S w (P ++ (L ++ H))) (k : Turns w w' H (e :: H')) : St w0 S w' ((P ++ [e]) ++ (L ++ H')) := by
  have h1 := St.callAt (A := P ++ L) (H := H) (B := []) (h.perm (List.Perm.of_eq (by simp))) k
  refine h1.perm ?_
  simp only [List.append_assoc, List.append_nil, List.cons_append, List.nil_append]
  exact List.Perm.append_left P List.perm_middle
theorem St.callEnd (h : St w0 S w (P ++ (L ++ H))) (k : Turns w w' H H') : St w0 S w' (P ++ (L ++ H')) :=
  (St.callAt (A := P ++ L) (H := H) (B := []) (h.perm (List.Perm.of_eq (by simp))) k).perm (List.Perm.of_eq (by simp))
end
end Go.Proofs.YtoaghhcjlfiflaaGreatDoor

namespace Go.Proofs.YtoaghhcjlfiflaaGreatDoor
open Go Ev
theorem playRuns_ok {E : Nat → Addr} (W : World) (hE : Errs W E W.heap.size allErrs) (hh : Handle W) (a0 : Option Addr) (n0 c0 : Nat) (rules : List RuleS) (hr : Slc W 5 encRule (fun _ => True) a0 n0 rules) (a1 : Option Addr) (n1 c1 : Nat) (ys : List Int) (hy : Slc W 1 encI (fun v => v ≤ 9223372036854775807) a1 n1 ys) (hnc : n1 ≤ c1) (n : Int) :
    CallC Tryz.prog 8 #[.slice a0 n0 c0, .slice a1 n1 c1, .int .i64 n] W fun v w' => v = .bool true ∧ Ext No W w' := by
  have hE2 : Errs W E W.heap.size insErrs := hE.sub rfl
  obtain rfl := hr.len
  have hl1 := hy.len
  have hm1 := hy.max
  have hm0 := hr.max
  refine fn_intro tabOk Tryz.func8 (by kernel_rfl) rfl Tryz.ntmps8 (Nat.le_of_ble_eq_true rfl) ?_
  (conv => whnf)
  refine (born_ok' hE2 (Nat.le_refl _)).mono ?_
  rintro v w1 ⟨rfl, hx⟩
  (conv => whnf)
  refine brD (fun h1 => ?_) (fun h1 => ?_)
  · repeat' ((conv => whnf); first | refine RetC.mk ?_ | refine NzC.mk (by decide) ?_ | refine RngC.mk (by omega) (by omega) ?_ | refine IdxC.mk (by omega) (by omega) ?_ | refine brD (fun _ => ?_) (fun _ => ?_) | refine brND (fun _ => ?_) (fun _ => ?_) | refine brN (fun _ => ?_) (fun _ => ?_) | refine brI (fun _ => ?_) (fun _ => ?_))
    exact ⟨rfl, hx⟩
  (conv => whnf)
  refine brD (fun h2 => ?_) (fun h2 => ?_)
  · repeat' ((conv => whnf); first | refine RetC.mk ?_ | refine NzC.mk (by decide) ?_ | refine RngC.mk (by omega) (by omega) ?_ | refine IdxC.mk (by omega) (by omega) ?_ | refine brD (fun _ => ?_) (fun _ => ?_) | refine brND (fun _ => ?_) (fun _ => ?_) | refine brN (fun _ => ?_) (fun _ => ?_) | refine brI (fun _ => ?_) (fun _ => ?_))
    exact ⟨rfl, hx⟩
  (conv => whnf)
  refine (rulesFault_ok (hr.no hx)).mono ?_
  rintro v w2 ⟨rfl, hx2⟩
  replace hx := hx.trans hx2
  (conv => whnf)
  refine brD (fun h5 => ?_) (fun h5 => ?_)
  · repeat' ((conv => whnf); first | refine RetC.mk ?_ | refine NzC.mk (by decide) ?_ | refine RngC.mk (by omega) (by omega) ?_ | refine IdxC.mk (by omega) (by omega) ?_ | refine brD (fun _ => ?_) (fun _ => ?_) | refine brND (fun _ => ?_) (fun _ => ?_) | refine brN (fun _ => ?_) (fun _ => ?_) | refine brI (fun _ => ?_) (fun _ => ?_))
    exact ⟨rfl, hx⟩
  have h0 : (faultL rules).1 = 0 := by omega
  clear hx2 h5
  (conv => whnf)
  refine (ownRules_ok (hr.no hx) (by omega)).mono ?_
  rintro v w3 ⟨a3, c3, rfl, hx3, ho3, _⟩
  replace hx := hx.trans hx3
  have hr3 := ownL_slc (G := fun _ => True) codRule ho3 (fun _ _ => trivial)
  (conv => whnf)
  refine (wnew_ok hr3 (by omega) (hE2.ext hx fun _ h => h.elim) hx.size h0).mono ?_
  rintro v w4 ⟨A, rfl, hx4, hst4, hf4⟩
  have hS : St W No w4 (worldH A (.born rules)) := ((St.start W No).no hx).madeAll hx4 hst4.has hf4
  have hok := hst4.ok
  clear hst4 hf4 hx3 ho3 hr3
  (conv => whnf)
  refine (rnewWorld_ok (c := c0) hr h0 hS.ext).mono ?_
  rintro v w5 ⟨Y, R, rfl, hx5, hst5, hf5⟩
  replace hS := hS.madeAll hx5 hst5.has hf5
  clear hf5 hx hx4 hx5
  generalize WorldS.born rules = V at hS hok hst5
  (conv => whnf)
  replace hS := hS.rowFirst 3 1 encI
  refine hS.appS codInt 0 (xs := []) Tryz.underlying62 (bytes := 8) (by kernel_rfl) (z := .int .i64 0) (by kernel_rfl) rfl rfl (hy.no hS.ext) (by unfold maxLen; simp; omega) (by simp; omega) (fun a7 c7 w7 hS => ?_)
  rw [show ([] : List Int).length + n1 = n1 by simp] at hS ⊢
  replace hS := hS.as (H' := [ownL 3 1 encI (.slice a7 n1 c7) ys] ++ (worldH A V ++ rworldH Y V R)) rfl
  have hgd : ∀ x ∈ ys, x ≤ 9223372036854775807 := hy.good
  (conv => whnf)
  refine (prun_ok (m := 0) (ownL_slc codInt (hS.get 0 rfl) hgd) (by omega) (ownL_cap (hS.get 0 rfl)) (fun _ b0 o0 ha hb => hS.rowOut (foot_own (by rw [ha]; rfl)) hb) (St.stands hS hE2 hok) (codes_of hE hh hS.ext) (by omega)).mono ?_
  rintro v w8 ⟨a8, c8, A2, rfl, hA2, hk⟩
  replace hS := (St.callAt (A := [_]) (H := worldH A V) (B := rworldH Y V R) hS hk).as (H' := [ownL 3 1 encI (.slice a7 n1 c7) ys, ownL 3 1 encI (.slice a8 n1 c8) (V.run ys).1] ++ (worldH A2 (V.run ys).2 ++ rworldH Y V R)) rfl
  clear hk
  have hokA := runs_ok ys hok (by rw [hl1]; omega)
  rw [hl1] at hokA
  (conv => whnf)
  refine (rrun_ok hy (by omega) (St.rstands hS hst5) (by omega) (by omega)).mono ?_
  rintro v w9 ⟨a9, c9, Y2, R2, rfl, hY2, hk, hst9⟩
  replace hS := St.callLast hS hk
  replace hS := hS.as (H' := [ownL 3 1 encI (.slice a7 n1 c7) ys, ownL 3 1 encI (.slice a8 n1 c8) (V.run ys).1, ownL 3 1 encI (.slice a9 n1 c9) (V.run ys).1] ++ (worldH A2 (V.run ys).2 ++ rworldH Y2 (V.run ys).2 R2)) rfl
  clear hk hst5
  generalize V.run ys = Q at hS hokA hst9
  (conv => whnf)
  refine (sameInts_ok (ownL_slc (G := fun _ => True) codInt (hS.get 1 rfl) (fun _ _ => trivial)) (ownL_slc (G := fun _ => True) codInt (hS.get 2 rfl) (fun _ _ => trivial))).mono ?_
  rintro v w10 ⟨rfl, hx10⟩
  replace hS := hS.no hx10
  replace hst9 := hst9.no hx10
  clear hx10
  rw [show decide (Q.1 = Q.1) = true by simp]
  rw [← hA2, ← hY2]
  (conv => whnf)
  refine (asWorld_ok hS.has.right (St.stands hS hE2 hokA) hst9 (codes_of hE hh hS.ext)).mono ?_
  rintro v w11 ⟨rfl, hx11⟩
  replace hS := hS.no hx11
  replace hst9 := hst9.no hx11
  clear hx11
  (conv => whnf)
  refine (psettle_ok n (St.stands hS hE2 hokA) (by omega)).mono ?_
  rintro v w12 ⟨rfl, A3, hA3, hk⟩
  replace hS := St.callAt hS hk
  clear hk
  (conv => whnf)
  refine (rsettle_ok n (St.rstands hS hst9) (by omega) (by omega)).mono ?_
  rintro v w13 ⟨rfl, Y3, R3, hY3, hk, hst13⟩
  replace hS := St.callEnd hS hk
  clear hk
  have hokB := settle_ok n 24 hokA (by omega)
  have hcd := settle_code n 24 Q.2
  generalize Q.2.settle n 24 = T at hS hokB hcd hst13 ⊢
  (conv => whnf)
  refine (coded3_same T.1 hcd _ (hE.ext hS.ext fun _ h => h.elim) (hh.ext hS.ext)).mono ?_
  rintro v w14 ⟨rfl, hx14⟩
  replace hS := hS.no hx14
  replace hst13 := hst13.no hx14
  (conv => whnf)
  rw [← hA3, ← hY3]
  refine (asWorld_ok hS.has.right (St.stands hS hE2 hokB) hst13 (codes_of hE hh hS.ext)).mono ?_
  rintro v w15 ⟨rfl, hx15⟩
  repeat' ((conv => whnf); first | refine RetC.mk ?_ | refine NzC.mk (by decide) ?_ | refine RngC.mk (by omega) (by omega) ?_ | refine IdxC.mk (by omega) (by omega) ?_ | refine brD (fun _ => ?_) (fun _ => ?_) | refine brND (fun _ => ?_) (fun _ => ?_) | refine brN (fun _ => ?_) (fun _ => ?_) | refine brI (fun _ => ?_) (fun _ => ?_))
  exact ⟨rfl, (hS.no hx15).ext⟩
theorem playRuns_walk {E : Nat → Addr} (W : World) (args : List Value) (hE : Errs W E W.heap.size allErrs) (hh : Handle W) (ha : ArgsOk Tryz.prog W [22, 62, 3] args) :
    CallC Tryz.prog 8 args.toArray W fun v w' => v = .bool true ∧ Ext No W w' := by
  obtain ⟨v0, args, rfl, h0, ha⟩ := ha.cons
  obtain ⟨v1, args, rfl, h1, ha⟩ := ha.cons
  obtain ⟨v2, args, rfl, h2, ha⟩ := ha.cons
  obtain rfl := ha.nil
  obtain ⟨c, hc⟩ : ∃ c, 10 ≤ c := ⟨10, Nat.le_refl _⟩
  obtain ⟨a0, n0, c0, xs, rfl, hx, _⟩ := arg_slice (d := c) (sz := 5) Tryz.underlying22 (by kernel_rfl) (by decide) (dec_ruleW hc) h0
  obtain ⟨a1, n1, c1, ys, rfl, hy, hnc⟩ := arg_slice (d := 1) (sz := 1) Tryz.underlying62 (by kernel_rfl) (by decide) (dec_int (d := 0) Tryz.underlying3) h1
  obtain ⟨n, rfl, _⟩ := arg_int Tryz.underlying3 h2
  exact playRuns_ok W hE hh a0 n0 c0 xs hx a1 n1 c1 ys (hy.imp fun _ h => h.2) hnc n
end Go.Proofs.YtoaghhcjlfiflaaGreatDoor
