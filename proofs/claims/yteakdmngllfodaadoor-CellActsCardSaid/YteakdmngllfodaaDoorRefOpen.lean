
/-
  The reference opens a cell, walked: it finds what Open finds.
-/
import Derived.Test.YteakdmngllfodaaDoorRefBytW
namespace Go.Proofs.YteakdmngllfodaaDoor
open Go Ev

theorem openN_par (d : List UInt8) {k : Nat} (hk : k < 2) (h : recN d k % 2 = k) (h1 : 1 ≤ recN d k) : (openN d k).num ≠ recN d k := by
  have : k = 0 ∨ k = 1 := by omega
  rcases this with rfl | rfl
  · simp [openN]
    omega
  · by_cases hf : fullK d 0 ∧ recN d 0 > (openN d 0).num
    · rw [show openN d 1 = ⟨recN d 0, recE d 0, recL d 0, false⟩ from if_pos hf]
      have := hf.1.2.1
      dsimp only
      omega
    · rw [show openN d 1 = ⟨0, 0, 0, false⟩ from if_neg hf]
      dsimp only
      omega
section
variable {w : World} {b c : Nat} {R : RBy}
theorem ropen_ok (hB : Blk w b 91 (encRB R)) (hl : R.data.length = 64) : CallC Tryd.prog 55 #[.pointer (some ⟨b, 0, none⟩)] w fun v w' => ∃ c, v = .pointer (some ⟨c, 0, none⟩) ∧ w.heap.size ≤ c ∧ Ext No w w' ∧ Blk w' c 96 (encCl b (openS R.data)) := by
  refine fn_intro tabOk Tryd.func55 (by kernel_rfl) rfl Tryd.ntmps55 (Nat.le_of_ble_eq_true rfl) ?_
  have hS := St.start w No
  (conv => whnf)
  refine hS.new (fun c w' hc hS => ?_)
  (conv => whnf)
  refine loopR tabOk (fun σ w' q => ∃ k : Nat, σ = [(4, .int .i64 k), (3, .pointer (some ⟨c, 0, none⟩)), (0, .pointer (some ⟨b, 0, none⟩))] ∧ q = 2 - k ∧ k ≤ 2 ∧ St w No w' [blk c 96 (encCl b (openN R.data k))])
    (σ' := [(4, .int .i64 ((0 : Nat) : Int)), (3, .pointer (some ⟨c, 0, none⟩)), (0, .pointer (some ⟨b, 0, none⟩))]) (n := 2) ⟨rfl, rfl, rfl, trivial⟩ ⟨0, rfl, rfl, Nat.zero_le _, hS⟩ ?_
  clear hS
  rintro _ w1 q ⟨k, rfl, rfl, hk, hS⟩
  (conv => whnf)
  refine brD (fun h3 => ?_) (fun h3 => ?_)
  · have hk2 : k < 2 := by omega
    have hrl := recK_len hl hk2
    have n1 := recN_lt R.data k
    have n2 := recE_lt R.data k
    have n3 := recL_lt R.data k
    have hst : openN R.data (k + 1) = openK R.data k (openN R.data k) := rfl
    have hpar := openN_par R.data hk2
    (conv => whnf)
    refine hS.ldr (hB.cell 0) id ?_
    (conv => whnf)
    refine RngC.mk (by omega) (by omega) ?_
    (conv => whnf)
    refine RngC.mk (by omega) (by omega) ?_
    (conv => whnf)
    refine RngC.mk (by omega) (by omega) ?_
    (conv => whnf)
    refine slcS (a := k * 20) (b := k * 20 + 17) (r := recK R.data k) Tryd.underlying9 (by omega) (by omega) (by omega) (by omega) (by unfold recK; congr 1; omega) ?_
    (conv => whnf)
    refine slcTo (b := 4) Tryd.underlying9 rfl (by omega) rfl ?_
    (conv => whnf)
    refine (rvalue_ok ((recK R.data k).take 4) (by rw [List.length_take]; omega) _).mono ?_
    rintro v w2 ⟨rfl, hx1⟩
    replace hS := hS.no hx1
    clear hx1
    rw [show valB ((recK R.data k).take 4) = recN R.data k from rfl]
    have hmod : (recN R.data k : Int).tmod 2 = ((recN R.data k % 2 : Nat) : Int) := by rw [Int.tmod_eq_emod_of_nonneg (by omega)]; omega
    have hf : fullK R.data k ↔ (1 ≤ recN R.data k ∧ recN R.data k % 2 = k ∧ bodyB (recN R.data k) (recE R.data k) (recL R.data k) ++ [165] = recK R.data k) := Iff.rfl
    have hok : openK R.data k (openN R.data k) = if fullK R.data k ∧ recN R.data k > (openN R.data k).num then ⟨recN R.data k, recE R.data k, recL R.data k, (openN R.data k).dead⟩ else openN R.data k := rfl
    (conv => whnf)
    refine brD (fun h4 => ?_) (fun h4 => ?_)
    · skip
      rw [hok, if_neg (fun h => by have := (hf.1 h.1).1; omega)] at hst
      (conv => whnf)
      refine RngC.mk (by omega) (by omega) ?_
      (conv => whnf)
      refine LoopE.mk ⟨_, [(4, .int .i64 ((k + 1 : Nat) : Int)), (3, _), (0, _)], ?_, ⟨rfl, rfl, rfl, trivial⟩, ⟨k + 1, rfl, rfl, by omega, by rw [hst]; exact hS⟩⟩
      omega
    (conv => whnf)
    refine NzC.mk (by decide) ?_
    rw [hmod]
    (conv => whnf)
    refine brND (fun h5 => ?_) (fun h5 => ?_)
    · skip
      rw [hok, if_neg (fun h => h5 (by have := (hf.1 h.1).2.1; omega))] at hst
      (conv => whnf)
      refine RngC.mk (by omega) (by omega) ?_
      (conv => whnf)
      refine LoopE.mk ⟨_, [(4, .int .i64 ((k + 1 : Nat) : Int)), (3, _), (0, _)], ?_, ⟨rfl, rfl, rfl, trivial⟩, ⟨k + 1, rfl, rfl, by omega, by rw [hst]; exact hS⟩⟩
      omega
    (conv => whnf)
    refine hS.ld 0 rfl rfl ?_
    (conv => whnf)
    refine brD (fun h6 => ?_) (fun h6 => ?_)
    · skip
      rw [hok, if_neg (fun h => by have := h.2; omega)] at hst
      (conv => whnf)
      refine RngC.mk (by omega) (by omega) ?_
      (conv => whnf)
      refine LoopE.mk ⟨_, [(4, .int .i64 ((k + 1 : Nat) : Int)), (3, _), (0, _)], ?_, ⟨rfl, rfl, rfl, trivial⟩, ⟨k + 1, rfl, rfl, by omega, by rw [hst]; exact hS⟩⟩
      omega
    have hgt : recN R.data k > (openN R.data k).num := by
      have := hpar (by omega) (by omega)
      omega
    (conv => whnf)
    (refine drawS tabOk mixed [] (No) [0, 1, 2, 4, 5, 10, 3, 6, 7, 8, 9, 11] (by kernel_rfl) ?_; rintro w1 rfl; replace hS := hS.drew)
    (conv => whnf)
    refine slcS (a := 4) (b := 8) Tryd.underlying9 rfl rfl (by omega) (by omega) rfl ?_
    (conv => whnf)
    refine slcS (a := 8) (b := 12) Tryd.underlying9 rfl rfl (by omega) (by omega) rfl ?_
    (conv => whnf)
    refine (rvalue_ok (((recK R.data k).drop 4).take (8 - 4)) (by rw [List.length_take]; omega) _).mono ?_
    rintro v w3 ⟨rfl, hx2⟩
    replace hS := hS.no hx2
    refine KeepC.mk hx2 ?_
    (conv => whnf)
    refine (rvalue_ok (((recK R.data k).drop 8).take (12 - 8)) (by rw [List.length_take]; omega) _).mono ?_
    rintro v w4 ⟨rfl, hx3⟩
    replace hS := hS.no hx3
    refine KeepC.mk (hx2.trans hx3) ?_
    rw [show valB (((recK R.data k).drop 4).take (8 - 4)) = recE R.data k from rfl, show valB (((recK R.data k).drop 8).take (12 - 8)) = recL R.data k from rfl]
    (conv => whnf)
    refine (rbody_ok (recN R.data k) (recE R.data k) (recL R.data k) (by omega) (by omega) (by omega) _).mono ?_
    rintro v w5 ⟨rfl, hx4⟩
    replace hS := hS.no hx4
    refine KeepC.mk ((hx2.trans hx3).trans hx4) ?_
    (conv => whnf)
    refine (rbyte_ok 165 (by omega) _).mono ?_
    rintro v w6 ⟨rfl, hx5⟩
    replace hS := hS.no hx5
    refine KeepC.mk (((hx2.trans hx3).trans hx4).trans hx5) ?_
    clear hx2 hx3 hx4 hx5
    (conv => whnf)
    refine addS (by rw [bodyB_len]; simp) ?_
    (conv => whnf)
    refine eqS2 ?_
    (conv => whnf)
    refine brD (fun h7 => ?_) (fun h7 => ?_)
    · rw [hok, if_pos ⟨hf.2 ⟨by omega, by omega, h7⟩, hgt⟩] at hst
      (conv => whnf)
      refine hS.st 0 rfl (Nat.le_of_ble_eq_true rfl) rfl (fun w' hS => ?_)
      (conv => whnf)
      refine slcS (a := 4) (b := 8) Tryd.underlying9 rfl rfl (by omega) (by omega) rfl ?_
      (conv => whnf)
      refine (rvalue_ok (((recK R.data k).drop 4).take (8 - 4)) (by rw [List.length_take]; omega) _).mono ?_
      rintro v w7 ⟨rfl, hx2⟩
      replace hS := hS.no hx2
      clear hx2
      rw [show valB (((recK R.data k).drop 4).take (8 - 4)) = recE R.data k from rfl]
      (conv => whnf)
      refine hS.st 0 rfl (Nat.le_of_ble_eq_true rfl) rfl (fun w' hS => ?_)
      (conv => whnf)
      refine slcS (a := 8) (b := 12) Tryd.underlying9 rfl rfl (by omega) (by omega) rfl ?_
      (conv => whnf)
      refine (rvalue_ok (((recK R.data k).drop 8).take (12 - 8)) (by rw [List.length_take]; omega) _).mono ?_
      rintro v w8 ⟨rfl, hx3⟩
      replace hS := hS.no hx3
      clear hx3
      rw [show valB (((recK R.data k).drop 8).take (12 - 8)) = recL R.data k from rfl]
      (conv => whnf)
      refine hS.st 0 rfl (Nat.le_of_ble_eq_true rfl) rfl (fun w' hS => ?_)
      replace hS : St w No w' [blk c 96 (encCl b ⟨recN R.data k, recE R.data k, recL R.data k, (openN R.data k).dead⟩)] := hS
      rw [← hst] at hS
      (conv => whnf)
      refine RngC.mk (by omega) (by omega) ?_
      (conv => whnf)
      refine LoopE.mk ⟨_, [(4, .int .i64 ((k + 1 : Nat) : Int)), (3, _), (0, _)], ?_, ⟨rfl, rfl, rfl, trivial⟩, ⟨k + 1, rfl, rfl, by omega, hS⟩⟩
      omega
    · skip
      rw [hok, if_neg (fun h => h7 (hf.1 h.1).2.2)] at hst
      (conv => whnf)
      refine RngC.mk (by omega) (by omega) ?_
      (conv => whnf)
      refine LoopE.mk ⟨_, [(4, .int .i64 ((k + 1 : Nat) : Int)), (3, _), (0, _)], ?_, ⟨rfl, rfl, rfl, trivial⟩, ⟨k + 1, rfl, rfl, by omega, by rw [hst]; exact hS⟩⟩
      omega
  · obtain rfl : k = 2 := by omega
    repeat' ((conv => whnf); first | refine RetC.mk ?_ | refine NzC.mk (by decide) ?_ | refine RngC.mk (by omega) (by omega) ?_ | refine IdxC.mk (by omega) (by omega) ?_ | refine brD (fun _ => ?_) (fun _ => ?_) | refine brND (fun _ => ?_) (fun _ => ?_) | refine brN (fun _ => ?_) (fun _ => ?_) | refine brI (fun _ => ?_) (fun _ => ?_))
    exact ⟨c, rfl, hc, hS.ext, hS.blk 0 rfl⟩
end
end Go.Proofs.YteakdmngllfodaaDoor
