/-
  Package track and its reference, walked.
-/
import Derived.Test.YtnpfaghfcbbmdaaDoorMapT
namespace Go.Proofs.YtnpfaghfcbbmdaaDoor
open Go Ev

def nextS (p s f : Int) (o : Bool) : Int × Bool :=
  if p ≠ 2 then (s, false) else if band f 8 ≠ 0 then (0, true) else if band f 4 ≠ 0 then (3, false)
  else if s = 1 ∧ o = false ∧ band f 1 ≠ 0 ∧ band f 2 ≠ 0 then (2, false) else (s, false)

theorem next_ok (p s f : Int) (o : Bool) (w : World) : CallC Tryd.prog 13 #[.int .i64 p, .int .i64 s, .int .i64 f, .bool o] w fun v w' => v = .tuple #[.int .i64 (nextS p s f o).1, .bool (nextS p s f o).2] ∧ w = w' := by
  refine fn_intro tabOk Tryd.func13 (by kernel_rfl) rfl Tryd.ntmps13 (Nat.le_of_ble_eq_true rfl) ?_
  repeat' ((conv => whnf); first | refine RetC.mk ?_ | refine NzC.mk (by decide) ?_ | refine RngC.mk (by omega) (by omega) ?_ | refine IdxC.mk (by omega) (by omega) ?_ | refine brD (fun _ => ?_) (fun _ => ?_) | refine brND (fun _ => ?_) (fun _ => ?_) | refine brN (fun _ => ?_) (fun _ => ?_) | refine brI (fun _ => ?_) (fun _ => ?_))
  all_goals simp_all [nextS]

def beginS (p f : Int) : Int × Nat :=
  if p ≠ 1 ∧ p ≠ 2 ∨ f < 0 ∨ 15 < f then (0, 2) else if p = 1 then (2, 0) else if f ≠ 1 then (0, 9) else (1, 0)
theorem beginS_code (p f : Int) : (beginS p f).2 < 12 := by
  unfold beginS
  repeat' split
  all_goals decide

theorem begin_ok {E : Nat → Addr} {n : Nat} (p f : Int) (w : World) (hE : Errs w E n [2, 9]) : CallC Tryd.prog 14 #[.int .i64 p, .int .i64 f] w fun v w' => v = .tuple #[.int .i64 (beginS p f).1, errV E (beginS p f).2] ∧ Ext No w w' := by
  refine fn_intro tabOk Tryd.func14 (by kernel_rfl) rfl Tryd.ntmps14 (Nat.le_of_ble_eq_true rfl) ?_
  have hS := St.start w No
  repeat' ((conv => whnf); first | refine RetC.mk ?_ | refine NzC.mk (by decide) ?_ | refine RngC.mk (by omega) (by omega) ?_ | refine IdxC.mk (by omega) (by omega) ?_ | refine hS.ldrF (hE.at_ 2 rfl) id id ?_ | refine hS.ldrF (hE.at_ 9 rfl) id id ?_ | (refine drawS tabOk mixed [] No [0, 1, 2] (by kernel_rfl) ?_; rintro w1 rfl; replace hS := hS.drew) | refine brD (fun _ => ?_) (fun _ => ?_) | refine brND (fun _ => ?_) (fun _ => ?_) | refine brN (fun _ => ?_) (fun _ => ?_) | refine brI (fun _ => ?_) (fun _ => ?_))
  all_goals refine ⟨?_, hS.ext⟩
  all_goals clear hE hS
  all_goals unfold beginS
  all_goals ((repeat' split) <;> first | rfl | (exfalso; omega) | (simp_all [over, cellsL]; done) | (simp_all [over, cellsL]; omega) | trace_state)

theorem times_ok (w : World) : CallC Tryd.prog 54 #[] w fun v w' => ∃ r l c, v = .map (some r) ∧ Ext No w w' ∧ w'.heap[r]? = some (kObj l c) ∧ ∀ p s, p ≠ 1 → kLook p s l = timeS p s := by
  refine fn_intro tabOk Tryd.func54 (by kernel_rfl) rfl Tryd.ntmps54 (Nat.le_of_ble_eq_true rfl) ?_
  (conv => whnf)
  refine drawT tabOk mixed [] No (.take 1 (.take 3 (.take 5 (.alt 0
    (.alt 2 (.alt 4 (.alt 6 (.take 7 (.take 8 .fin)) .fin) (.alt 6 (.alt 4 (.take 7 (.take 8 .fin)) .fin) .fin))
    (.alt 4 (.alt 2 (.alt 6 (.take 7 (.take 8 .fin)) .fin) (.alt 6 (.alt 2 (.take 7 (.take 8 .fin)) .fin) .fin))
    (.alt 6 (.alt 2 (.alt 4 (.take 7 (.take 8 .fin)) .fin) (.alt 4 (.alt 2 (.take 7 (.take 8 .fin)) .fin) .fin)) .fin))) .fin)))) (by kernel_rfl) ?_
  intro w1 hw1
  have hS := St.start w1 No
  have hx0 : Ext No w w1 := by subst hw1; exact Ext.drawn _ _ _
  clear hw1
  repeat' ((conv => whnf); first | refine RetC.mk ?_ | refine And.intro ?_ ?_ | refine hS.mkMap (fun r w' hr hS => ?_) | refine hS.ins 0 rfl rfl (fun w' hx hS => ?_) | refine KeepC.mk hS.ext ?_)
  all_goals refine ⟨_, _, _, rfl, hx0.trans hS.ext, hS.get 0 rfl, fun p s hp => ?_⟩
  all_goals clear hS hx0
  all_goals simp only [List.nil_append, List.cons_append, kLook, timeS]
  all_goals (by_cases h2 : p = 2 <;> by_cases s1 : s = 1 <;> by_cases s2 : s = 2 <;> by_cases s3 : s = 3 <;> simp_all)

theorem time_ok (p s : Int) (w : World) : CallC Tryd.prog 18 #[.int .i64 p, .int .i64 s] w fun v w' => v = .int .i64 (timeS p s) ∧ Ext No w w' := by
  refine fn_intro tabOk Tryd.func18 (by kernel_rfl) rfl Tryd.ntmps18 (Nat.le_of_ble_eq_true rfl) ?_
  (conv => whnf)
  refine brD (fun h => ?_) (fun h => ?_)
  · repeat' ((conv => whnf); first | refine RetC.mk ?_ | refine NzC.mk (by decide) ?_ | refine RngC.mk (by omega) (by omega) ?_ | refine IdxC.mk (by omega) (by omega) ?_ | refine brD (fun _ => ?_) (fun _ => ?_) | refine brND (fun _ => ?_) (fun _ => ?_) | refine brN (fun _ => ?_) (fun _ => ?_) | refine brI (fun _ => ?_) (fun _ => ?_))
    exact ⟨by simp [timeS, h], Ext.refl _ _⟩
  · (conv => whnf)
    refine (times_ok w).mono ?_
    rintro v w' ⟨r, l, c, rfl, hx, hr, hk⟩
    (conv => whnf)
    refine ⟨_, _, mapLook p s hr, ?_⟩
    repeat' ((conv => whnf); first | refine RetC.mk ?_ | refine NzC.mk (by decide) ?_ | refine RngC.mk (by omega) (by omega) ?_ | refine IdxC.mk (by omega) (by omega) ?_ | refine brD (fun _ => ?_) (fun _ => ?_) | refine brND (fun _ => ?_) (fun _ => ?_) | refine brN (fun _ => ?_) (fun _ => ?_) | refine brI (fun _ => ?_) (fun _ => ?_))
    exact ⟨by rw [hk p s h], hx⟩

theorem tracked_ok {E : Nat → Addr} {n : Nat} (w : World) (hE : Errs w E n [2, 9]) : CallC Tryd.prog 12 #[] w fun v w' => v = .bool true ∧ Ext No w w' := by
  refine fn_intro tabOk Tryd.func12 (by kernel_rfl) rfl Tryd.ntmps12 (Nat.le_of_ble_eq_true rfl) ?_
  have hS := St.start w No
  (conv => whnf)
  refine (begin_ok _ _ _ hE).mono ?_
  rintro v w' ⟨rfl, hx⟩
  replace hS := hS.no hx
  (conv => whnf)
  refine (next_ok _ _ _ _ _).mono ?_
  rintro v w' ⟨rfl, rfl⟩
  (conv => whnf)
  refine (time_ok _ _ _).mono ?_
  rintro v w' ⟨rfl, hx⟩
  replace hS := hS.no hx
  repeat' ((conv => whnf); first | refine RetC.mk ?_ | refine NzC.mk (by decide) ?_ | refine RngC.mk (by omega) (by omega) ?_ | refine IdxC.mk (by omega) (by omega) ?_ | refine brD (fun _ => ?_) (fun _ => ?_) | refine brND (fun _ => ?_) (fun _ => ?_) | refine brN (fun _ => ?_) (fun _ => ?_) | refine brI (fun _ => ?_) (fun _ => ?_))
  exact ⟨rfl, hS.ext⟩

/-! ### The reference -/
theorem band_bit (x : Int) (k : Nat) (hk : k < 4) : band x (2 ^ k : Nat) = 0 ∨ band x (2 ^ k : Nat) = (2 ^ k : Nat) := by
  have h1 : BitVec.ofInt 64 ((2 ^ k : Nat) : Int) = BitVec.twoPow 64 k := by
    match k, hk with
    | 0, _ | 1, _ | 2, _ | 3, _ => rfl
    | n + 4, h => omega
  unfold band
  rw [h1, BitVec.and_twoPow]
  split
  · right
    match k, hk with
    | 0, _ | 1, _ | 2, _ | 3, _ => rfl
    | n + 4, h => omega
  · left
    rfl
theorem bit_eq (x : Int) (k : Nat) (hk : k < 4) : (band x (2 ^ k : Nat) == ((2 ^ k : Nat) : Int)) = decide (band x (2 ^ k : Nat) ≠ 0) := by
  have h2 : ((2 ^ k : Nat) : Int) ≠ 0 := by
    match k, hk with
    | 0, _ | 1, _ | 2, _ | 3, _ => decide
    | n + 4, h => omega
  rcases band_bit x k hk with h | h
  · rw [h]; simpa using h2.symm
  · rw [h]; simpa using h2

theorem bit_ok (x y : Int) (w : World) : CallC Tryd.prog 52 #[.int .i64 x, .int .i64 y] w fun v w' => v = .bool (band x y == y) ∧ w = w' := by
  refine fn_intro tabOk Tryd.func52 (by kernel_rfl) rfl Tryd.ntmps52 (Nat.le_of_ble_eq_true rfl) ?_
  repeat' ((conv => whnf); first | refine RetC.mk ?_ | refine NzC.mk (by decide) ?_ | refine RngC.mk (by omega) (by omega) ?_ | refine IdxC.mk (by omega) (by omega) ?_ | refine brD (fun _ => ?_) (fun _ => ?_) | refine brND (fun _ => ?_) (fun _ => ?_) | refine brN (fun _ => ?_) (fun _ => ?_) | refine brI (fun _ => ?_) (fun _ => ?_))
  exact ⟨rfl, rfl⟩

theorem nextOf_ok (p s f : Int) (o : Bool) (w : World) : CallC Tryd.prog 16 #[.int .i64 p, .int .i64 s, .int .i64 f, .bool o] w fun v w' => v = .tuple #[.int .i64 (nextS p s f o).1, .bool (nextS p s f o).2] ∧ w = w' := by
  have b0 := bit_eq f 0 (by decide)
  have b1 := bit_eq f 1 (by decide)
  have b2 := bit_eq f 2 (by decide)
  have b3 := bit_eq f 3 (by decide)
  simp only [show ((2 ^ 0 : Nat) : Int) = 1 from rfl, show ((2 ^ 1 : Nat) : Int) = 2 from rfl, show ((2 ^ 2 : Nat) : Int) = 4 from rfl, show ((2 ^ 3 : Nat) : Int) = 8 from rfl] at b0 b1 b2 b3
  have c0 := bit_ok f 1 w
  have c1 := bit_ok f 2 w
  have c2 := bit_ok f 4 w
  have c3 := bit_ok f 8 w
  rw [b0] at c0
  rw [b1] at c1
  rw [b2] at c2
  rw [b3] at c3
  clear b0 b1 b2 b3
  refine fn_intro tabOk Tryd.func16 (by kernel_rfl) rfl Tryd.ntmps16 (Nat.le_of_ble_eq_true rfl) ?_
  repeat' ((conv => whnf); first | refine RetC.mk ?_ | refine NzC.mk (by decide) ?_ | refine RngC.mk (by omega) (by omega) ?_ | refine IdxC.mk (by omega) (by omega) ?_ | (refine c3.mono ?_; rintro v w' ⟨rfl, rfl⟩) | (refine c2.mono ?_; rintro v w' ⟨rfl, rfl⟩) | (refine c1.mono ?_; rintro v w' ⟨rfl, rfl⟩) | (refine c0.mono ?_; rintro v w' ⟨rfl, rfl⟩) | refine brD (fun _ => ?_) (fun _ => ?_) | refine brND (fun _ => ?_) (fun _ => ?_) | refine brN (fun _ => ?_) (fun _ => ?_) | refine brI (fun _ => ?_) (fun _ => ?_))
  all_goals simp_all [nextS]

theorem beginOf_ok (p f : Int) (w : World) : CallC Tryd.prog 15 #[.int .i64 p, .int .i64 f] w fun v w' => v = .tuple #[.int .i64 (beginS p f).1, .int .i64 (beginS p f).2] ∧ w = w' := by
  refine fn_intro tabOk Tryd.func15 (by kernel_rfl) rfl Tryd.ntmps15 (Nat.le_of_ble_eq_true rfl) ?_
  repeat' ((conv => whnf); first | refine RetC.mk ?_ | refine NzC.mk (by decide) ?_ | refine RngC.mk (by omega) (by omega) ?_ | refine IdxC.mk (by omega) (by omega) ?_ | refine brD (fun _ => ?_) (fun _ => ?_) | refine brND (fun _ => ?_) (fun _ => ?_) | refine brN (fun _ => ?_) (fun _ => ?_) | refine brI (fun _ => ?_) (fun _ => ?_))
  all_goals refine ⟨?_, rfl⟩
  all_goals unfold beginS
  all_goals ((repeat' split) <;> first | rfl | (exfalso; omega) | (simp_all [over, cellsL]; done) | (simp_all [over, cellsL]; omega) | trace_state)

theorem timeOf_ok (p s : Int) (w : World) : CallC Tryd.prog 19 #[.int .i64 p, .int .i64 s] w fun v w' => v = .int .i64 (timeS p s) ∧ w = w' := by
  refine fn_intro tabOk Tryd.func19 (by kernel_rfl) rfl Tryd.ntmps19 (Nat.le_of_ble_eq_true rfl) ?_
  repeat' ((conv => whnf); first | refine RetC.mk ?_ | refine NzC.mk (by decide) ?_ | refine RngC.mk (by omega) (by omega) ?_ | refine IdxC.mk (by omega) (by omega) ?_ | refine brD (fun _ => ?_) (fun _ => ?_) | refine brND (fun _ => ?_) (fun _ => ?_) | refine brN (fun _ => ?_) (fun _ => ?_) | refine brI (fun _ => ?_) (fun _ => ?_))
  all_goals refine ⟨?_, rfl⟩
  all_goals unfold timeS
  all_goals ((repeat' split) <;> first | rfl | (exfalso; omega) | (simp_all [over, cellsL]; done) | (simp_all [over, cellsL]; omega) | trace_state)
end Go.Proofs.YtnpfaghfcbbmdaaDoor
