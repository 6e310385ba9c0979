
/-
  The reference writes its bytes, walked (region 7: both loads of the data are late, the store turns the same block).
-/
import Derived.Test.YteakdmngllfodaaDoorRefByt
namespace Go.Proofs.YteakdmngllfodaaDoor
open Go Ev

def RBy.cutN (R : RBy) (m : Nat) : Nat := if R.off = true then 0 else if R.bnd = true ∧ R.left < m then R.left.toNat else m
def RBy.offN (R : RBy) (m : Nat) : Bool := if R.off = true then true else if R.bnd = true ∧ R.left < m then true else false
def RBy.write (R : RBy) (p : Nat) (s : List UInt8) : Bool × RBy := (!R.offN s.length, ⟨laid R.data p (s.take (R.cutN s.length)), R.offN s.length, R.left - R.cutN s.length, R.bnd⟩)
section
variable {w : World} {b : Nat} {R : RBy}
theorem rbwrite_ok (p : Nat) (s : List UInt8) (hp : p + s.length ≤ 64) (hl : R.data.length = 64) (hbd : R.bnd = true → 0 ≤ R.left) (hr : -1000000 ≤ R.left ∧ R.left ≤ 9223372036854775807) (hb : Blk w b 91 (encRB R)) :
    CallC Tryd.prog 84 #[.pointer (some ⟨b, 0, none⟩), .int .i64 (p : Int), .string (bs s)] w fun v w' => v = .bool (R.write p s).1 ∧ Ext (· = b) w w' ∧ Blk w' b 91 (encRB (R.write p s).2) := by
  obtain ⟨D, ro, lf, bd⟩ := R
  dsimp only at hl hbd hr
  refine fn_intro tabOk Tryd.func84 (by kernel_rfl) rfl Tryd.ntmps84 (Nat.le_of_ble_eq_true rfl) ?_
  have hS := (St.start w (· = b)).add (blk_local b _ _) hb (by simp [blk]; exact hb.lt) (by simp)
  replace hS : St w (· = b) w [blk b 91 [.string (bs D), .bool ro, .int .i64 lf, .bool bd]] := hS
  unfold RBy.write RBy.cutN RBy.offN
  (conv => whnf)
  rw [bs_size]
  refine hS.ld 0 rfl rfl ?_
  cases ro
  · rw [if_neg Bool.false_ne_true, if_neg Bool.false_ne_true]
    (conv => whnf)
    refine hS.ld 0 rfl rfl ?_
    cases bd
    · (conv => whnf)
      have hc : ¬ (false = true ∧ lf < (s.length : Int)) := by simp
      rw [if_neg hc, if_neg hc]
      have hlaid : D.take p ++ s.take s.length ++ D.drop (p + s.length) = laid D p (s.take s.length) := by
        unfold laid
        rw [List.length_take, Nat.min_eq_left (by omega)]
      refine drawT tabOk mixed [4, 14] (fun q => q = b) (.take 0 (.take 1 (.take 2 (.take 3 (.take 5 (.take 7 (.take 8 (.take 9 (.take 11 (.take 12 (.take 13 (.take 15 (.take 16 (.take 17 (.alt 4 (.take 6 (.take 10 (.alt 14 (.take 18 (.take 19 (.take 20 (.take 21 (.alt 22 .fin .fin))))) .fin))) (.alt 14 (.take 18 (.alt 4 (.take 6 (.take 10 (.take 19 (.take 20 (.take 21 (.alt 22 .fin .fin)))))) .fin)) .fin)))))))))))))))) (by kernel_rfl) ?_
      rintro w1 rfl
      replace hS := hS.drew
      (conv => whnf)
      refine slcTo (b := s.length) Tryd.underlying9 (by omega) (by omega) rfl ?_
      (conv => whnf)
      refine RngC.mk (by omega) (by omega) ?_
      (conv => whnf)
      refine And.intro ?_ ?_
      · (conv => whnf)
        refine hS.ld 0 rfl rfl ?_
        refine KeepC.mk (Ext.refl _ _) ?_
        (conv => whnf)
        refine slcTo (b := p) Tryd.underlying9 rfl (by omega) rfl ?_
        (conv => whnf)
        refine addS (by simp; omega) ?_
        (conv => whnf)
        refine hS.ld 0 rfl rfl ?_
        refine KeepC.mk (Ext.refl _ _) ?_
        (conv => whnf)
        refine slcFrom (b := p + s.length) Tryd.underlying9 (by omega) (by omega) rfl ?_
        (conv => whnf)
        refine addS (by simp; omega) ?_
        (conv => whnf)
        refine hS.stX 0 rfl (Nat.le_of_ble_eq_true rfl) rfl (fun w' hx' hS => ?_)
        refine KeepC.mk hx' ?_
        clear hx'
        replace hS : St w (· = b) w' [blk b 91 [.string (bs (D.take p ++ s.take s.length ++ D.drop (p + s.length))), .bool false, .int .i64 lf, .bool false]] := hS
        rw [hlaid] at hS
        (conv => whnf)
        refine hS.ld 0 rfl rfl ?_
        (conv => whnf)
        refine RngC.mk (by omega) (by omega) ?_
        (conv => whnf)
        refine hS.st 0 rfl (Nat.le_of_ble_eq_true rfl) rfl (fun w' hS => ?_)
        (conv => whnf)
        refine hS.ld 0 rfl rfl ?_
        repeat' ((conv => whnf); first | refine RetC.mk ?_ | refine NzC.mk (by decide) ?_ | refine RngC.mk (by omega) (by omega) ?_ | refine IdxC.mk (by omega) (by omega) ?_ | refine brD (fun _ => ?_) (fun _ => ?_) | refine brND (fun _ => ?_) (fun _ => ?_) | refine brN (fun _ => ?_) (fun _ => ?_) | refine brI (fun _ => ?_) (fun _ => ?_))
        exact ⟨rfl, hS.ext, hS.blk 0 rfl⟩
      · (conv => whnf)
        refine hS.ld 0 rfl rfl ?_
        refine KeepC.mk (Ext.refl _ _) ?_
        (conv => whnf)
        refine slcFrom (b := p + s.length) Tryd.underlying9 (by omega) (by omega) rfl ?_
        (conv => whnf)
        refine hS.ld 0 rfl rfl ?_
        refine KeepC.mk (Ext.refl _ _) ?_
        (conv => whnf)
        refine slcTo (b := p) Tryd.underlying9 rfl (by omega) rfl ?_
        (conv => whnf)
        refine addS (by simp; omega) ?_
        (conv => whnf)
        refine addS (by simp; omega) ?_
        (conv => whnf)
        refine hS.stX 0 rfl (Nat.le_of_ble_eq_true rfl) rfl (fun w' hx' hS => ?_)
        refine KeepC.mk hx' ?_
        clear hx'
        replace hS : St w (· = b) w' [blk b 91 [.string (bs (D.take p ++ s.take s.length ++ D.drop (p + s.length))), .bool false, .int .i64 lf, .bool false]] := hS
        rw [hlaid] at hS
        (conv => whnf)
        refine hS.ld 0 rfl rfl ?_
        (conv => whnf)
        refine RngC.mk (by omega) (by omega) ?_
        (conv => whnf)
        refine hS.st 0 rfl (Nat.le_of_ble_eq_true rfl) rfl (fun w' hS => ?_)
        (conv => whnf)
        refine hS.ld 0 rfl rfl ?_
        repeat' ((conv => whnf); first | refine RetC.mk ?_ | refine NzC.mk (by decide) ?_ | refine RngC.mk (by omega) (by omega) ?_ | refine IdxC.mk (by omega) (by omega) ?_ | refine brD (fun _ => ?_) (fun _ => ?_) | refine brND (fun _ => ?_) (fun _ => ?_) | refine brN (fun _ => ?_) (fun _ => ?_) | refine brI (fun _ => ?_) (fun _ => ?_))
        exact ⟨rfl, hS.ext, hS.blk 0 rfl⟩
    · have hb0 := hbd rfl
      (conv => whnf)
      refine hS.ld 0 rfl rfl ?_
      (conv => whnf)
      refine brD (fun h1 => ?_) (fun h1 => ?_)
      · have hc : true = true ∧ lf < (s.length : Int) := ⟨rfl, h1⟩
        rw [if_pos hc, if_pos hc]
        obtain ⟨m, rfl⟩ : ∃ m : Nat, lf = m := ⟨lf.toNat, by omega⟩
        simp only [Int.toNat_natCast]
        (conv => whnf)
        refine hS.ld 0 rfl rfl ?_
        (conv => whnf)
        refine hS.st 0 rfl (Nat.le_of_ble_eq_true rfl) rfl (fun w' hS => ?_)
        (conv => whnf)
        have hlaid : D.take p ++ s.take m ++ D.drop (p + m) = laid D p (s.take m) := by
          unfold laid
          rw [List.length_take, Nat.min_eq_left (by omega)]
        refine drawT tabOk mixed [4, 14] (fun q => q = b) (.take 0 (.take 1 (.take 2 (.take 3 (.take 5 (.take 7 (.take 8 (.take 9 (.take 11 (.take 12 (.take 13 (.take 15 (.take 16 (.take 17 (.alt 4 (.take 6 (.take 10 (.alt 14 (.take 18 (.take 19 (.take 20 (.take 21 (.alt 22 .fin .fin))))) .fin))) (.alt 14 (.take 18 (.alt 4 (.take 6 (.take 10 (.take 19 (.take 20 (.take 21 (.alt 22 .fin .fin)))))) .fin)) .fin)))))))))))))))) (by kernel_rfl) ?_
        rintro w1 rfl
        replace hS := hS.drew
        (conv => whnf)
        refine slcTo (b := m) Tryd.underlying9 (by omega) (by omega) rfl ?_
        (conv => whnf)
        refine RngC.mk (by omega) (by omega) ?_
        (conv => whnf)
        refine And.intro ?_ ?_
        · (conv => whnf)
          refine hS.ld 0 rfl rfl ?_
          refine KeepC.mk (Ext.refl _ _) ?_
          (conv => whnf)
          refine slcTo (b := p) Tryd.underlying9 rfl (by omega) rfl ?_
          (conv => whnf)
          refine addS (by simp; omega) ?_
          (conv => whnf)
          refine hS.ld 0 rfl rfl ?_
          refine KeepC.mk (Ext.refl _ _) ?_
          (conv => whnf)
          refine slcFrom (b := p + m) Tryd.underlying9 (by omega) (by omega) rfl ?_
          (conv => whnf)
          refine addS (by simp; omega) ?_
          (conv => whnf)
          refine hS.stX 0 rfl (Nat.le_of_ble_eq_true rfl) rfl (fun w' hx' hS => ?_)
          refine KeepC.mk hx' ?_
          clear hx'
          replace hS : St w (· = b) w' [blk b 91 [.string (bs (D.take p ++ s.take m ++ D.drop (p + m))), .bool true, .int .i64 (m : Int), .bool true]] := hS
          rw [hlaid] at hS
          (conv => whnf)
          refine hS.ld 0 rfl rfl ?_
          (conv => whnf)
          refine RngC.mk (by omega) (by omega) ?_
          (conv => whnf)
          refine hS.st 0 rfl (Nat.le_of_ble_eq_true rfl) rfl (fun w' hS => ?_)
          (conv => whnf)
          refine hS.ld 0 rfl rfl ?_
          repeat' ((conv => whnf); first | refine RetC.mk ?_ | refine NzC.mk (by decide) ?_ | refine RngC.mk (by omega) (by omega) ?_ | refine IdxC.mk (by omega) (by omega) ?_ | refine brD (fun _ => ?_) (fun _ => ?_) | refine brND (fun _ => ?_) (fun _ => ?_) | refine brN (fun _ => ?_) (fun _ => ?_) | refine brI (fun _ => ?_) (fun _ => ?_))
          exact ⟨rfl, hS.ext, hS.blk 0 rfl⟩
        · (conv => whnf)
          refine hS.ld 0 rfl rfl ?_
          refine KeepC.mk (Ext.refl _ _) ?_
          (conv => whnf)
          refine slcFrom (b := p + m) Tryd.underlying9 (by omega) (by omega) rfl ?_
          (conv => whnf)
          refine hS.ld 0 rfl rfl ?_
          refine KeepC.mk (Ext.refl _ _) ?_
          (conv => whnf)
          refine slcTo (b := p) Tryd.underlying9 rfl (by omega) rfl ?_
          (conv => whnf)
          refine addS (by simp; omega) ?_
          (conv => whnf)
          refine addS (by simp; omega) ?_
          (conv => whnf)
          refine hS.stX 0 rfl (Nat.le_of_ble_eq_true rfl) rfl (fun w' hx' hS => ?_)
          refine KeepC.mk hx' ?_
          clear hx'
          replace hS : St w (· = b) w' [blk b 91 [.string (bs (D.take p ++ s.take m ++ D.drop (p + m))), .bool true, .int .i64 (m : Int), .bool true]] := hS
          rw [hlaid] at hS
          (conv => whnf)
          refine hS.ld 0 rfl rfl ?_
          (conv => whnf)
          refine RngC.mk (by omega) (by omega) ?_
          (conv => whnf)
          refine hS.st 0 rfl (Nat.le_of_ble_eq_true rfl) rfl (fun w' hS => ?_)
          (conv => whnf)
          refine hS.ld 0 rfl rfl ?_
          repeat' ((conv => whnf); first | refine RetC.mk ?_ | refine NzC.mk (by decide) ?_ | refine RngC.mk (by omega) (by omega) ?_ | refine IdxC.mk (by omega) (by omega) ?_ | refine brD (fun _ => ?_) (fun _ => ?_) | refine brND (fun _ => ?_) (fun _ => ?_) | refine brN (fun _ => ?_) (fun _ => ?_) | refine brI (fun _ => ?_) (fun _ => ?_))
          exact ⟨rfl, hS.ext, hS.blk 0 rfl⟩
      · have hc : ¬ (true = true ∧ lf < (s.length : Int)) := fun h => h1 h.2
        rw [if_neg hc, if_neg hc]
        (conv => whnf)
        have hlaid : D.take p ++ s.take s.length ++ D.drop (p + s.length) = laid D p (s.take s.length) := by
          unfold laid
          rw [List.length_take, Nat.min_eq_left (by omega)]
        refine drawT tabOk mixed [4, 14] (fun q => q = b) (.take 0 (.take 1 (.take 2 (.take 3 (.take 5 (.take 7 (.take 8 (.take 9 (.take 11 (.take 12 (.take 13 (.take 15 (.take 16 (.take 17 (.alt 4 (.take 6 (.take 10 (.alt 14 (.take 18 (.take 19 (.take 20 (.take 21 (.alt 22 .fin .fin))))) .fin))) (.alt 14 (.take 18 (.alt 4 (.take 6 (.take 10 (.take 19 (.take 20 (.take 21 (.alt 22 .fin .fin)))))) .fin)) .fin)))))))))))))))) (by kernel_rfl) ?_
        rintro w1 rfl
        replace hS := hS.drew
        (conv => whnf)
        refine slcTo (b := s.length) Tryd.underlying9 (by omega) (by omega) rfl ?_
        (conv => whnf)
        refine RngC.mk (by omega) (by omega) ?_
        (conv => whnf)
        refine And.intro ?_ ?_
        · (conv => whnf)
          refine hS.ld 0 rfl rfl ?_
          refine KeepC.mk (Ext.refl _ _) ?_
          (conv => whnf)
          refine slcTo (b := p) Tryd.underlying9 rfl (by omega) rfl ?_
          (conv => whnf)
          refine addS (by simp; omega) ?_
          (conv => whnf)
          refine hS.ld 0 rfl rfl ?_
          refine KeepC.mk (Ext.refl _ _) ?_
          (conv => whnf)
          refine slcFrom (b := p + s.length) Tryd.underlying9 (by omega) (by omega) rfl ?_
          (conv => whnf)
          refine addS (by simp; omega) ?_
          (conv => whnf)
          refine hS.stX 0 rfl (Nat.le_of_ble_eq_true rfl) rfl (fun w' hx' hS => ?_)
          refine KeepC.mk hx' ?_
          clear hx'
          replace hS : St w (· = b) w' [blk b 91 [.string (bs (D.take p ++ s.take s.length ++ D.drop (p + s.length))), .bool false, .int .i64 lf, .bool true]] := hS
          rw [hlaid] at hS
          (conv => whnf)
          refine hS.ld 0 rfl rfl ?_
          (conv => whnf)
          refine RngC.mk (by omega) (by omega) ?_
          (conv => whnf)
          refine hS.st 0 rfl (Nat.le_of_ble_eq_true rfl) rfl (fun w' hS => ?_)
          (conv => whnf)
          refine hS.ld 0 rfl rfl ?_
          repeat' ((conv => whnf); first | refine RetC.mk ?_ | refine NzC.mk (by decide) ?_ | refine RngC.mk (by omega) (by omega) ?_ | refine IdxC.mk (by omega) (by omega) ?_ | refine brD (fun _ => ?_) (fun _ => ?_) | refine brND (fun _ => ?_) (fun _ => ?_) | refine brN (fun _ => ?_) (fun _ => ?_) | refine brI (fun _ => ?_) (fun _ => ?_))
          exact ⟨rfl, hS.ext, hS.blk 0 rfl⟩
        · (conv => whnf)
          refine hS.ld 0 rfl rfl ?_
          refine KeepC.mk (Ext.refl _ _) ?_
          (conv => whnf)
          refine slcFrom (b := p + s.length) Tryd.underlying9 (by omega) (by omega) rfl ?_
          (conv => whnf)
          refine hS.ld 0 rfl rfl ?_
          refine KeepC.mk (Ext.refl _ _) ?_
          (conv => whnf)
          refine slcTo (b := p) Tryd.underlying9 rfl (by omega) rfl ?_
          (conv => whnf)
          refine addS (by simp; omega) ?_
          (conv => whnf)
          refine addS (by simp; omega) ?_
          (conv => whnf)
          refine hS.stX 0 rfl (Nat.le_of_ble_eq_true rfl) rfl (fun w' hx' hS => ?_)
          refine KeepC.mk hx' ?_
          clear hx'
          replace hS : St w (· = b) w' [blk b 91 [.string (bs (D.take p ++ s.take s.length ++ D.drop (p + s.length))), .bool false, .int .i64 lf, .bool true]] := hS
          rw [hlaid] at hS
          (conv => whnf)
          refine hS.ld 0 rfl rfl ?_
          (conv => whnf)
          refine RngC.mk (by omega) (by omega) ?_
          (conv => whnf)
          refine hS.st 0 rfl (Nat.le_of_ble_eq_true rfl) rfl (fun w' hS => ?_)
          (conv => whnf)
          refine hS.ld 0 rfl rfl ?_
          repeat' ((conv => whnf); first | refine RetC.mk ?_ | refine NzC.mk (by decide) ?_ | refine RngC.mk (by omega) (by omega) ?_ | refine IdxC.mk (by omega) (by omega) ?_ | refine brD (fun _ => ?_) (fun _ => ?_) | refine brND (fun _ => ?_) (fun _ => ?_) | refine brN (fun _ => ?_) (fun _ => ?_) | refine brI (fun _ => ?_) (fun _ => ?_))
          exact ⟨rfl, hS.ext, hS.blk 0 rfl⟩
  · rw [if_pos rfl, if_pos rfl]
    (conv => whnf)
    have hlaid : D.take p ++ s.take 0 ++ D.drop (p + 0) = laid D p (s.take 0) := by
      unfold laid
      rw [List.length_take, Nat.min_eq_left (by omega)]
    refine drawT tabOk mixed [4, 14] (fun q => q = b) (.take 0 (.take 1 (.take 2 (.take 3 (.take 5 (.take 7 (.take 8 (.take 9 (.take 11 (.take 12 (.take 13 (.take 15 (.take 16 (.take 17 (.alt 4 (.take 6 (.take 10 (.alt 14 (.take 18 (.take 19 (.take 20 (.take 21 (.alt 22 .fin .fin))))) .fin))) (.alt 14 (.take 18 (.alt 4 (.take 6 (.take 10 (.take 19 (.take 20 (.take 21 (.alt 22 .fin .fin)))))) .fin)) .fin)))))))))))))))) (by kernel_rfl) ?_
    rintro w1 rfl
    replace hS := hS.drew
    (conv => whnf)
    refine slcTo (b := 0) Tryd.underlying9 (by omega) (by omega) rfl ?_
    (conv => whnf)
    refine RngC.mk (by omega) (by omega) ?_
    (conv => whnf)
    refine And.intro ?_ ?_
    · (conv => whnf)
      refine hS.ld 0 rfl rfl ?_
      refine KeepC.mk (Ext.refl _ _) ?_
      (conv => whnf)
      refine slcTo (b := p) Tryd.underlying9 rfl (by omega) rfl ?_
      (conv => whnf)
      refine addS (by simp; omega) ?_
      (conv => whnf)
      refine hS.ld 0 rfl rfl ?_
      refine KeepC.mk (Ext.refl _ _) ?_
      (conv => whnf)
      refine slcFrom (b := p + 0) Tryd.underlying9 (by omega) (by omega) rfl ?_
      (conv => whnf)
      refine addS (by simp; omega) ?_
      (conv => whnf)
      refine hS.stX 0 rfl (Nat.le_of_ble_eq_true rfl) rfl (fun w' hx' hS => ?_)
      refine KeepC.mk hx' ?_
      clear hx'
      replace hS : St w (· = b) w' [blk b 91 [.string (bs (D.take p ++ s.take 0 ++ D.drop (p + 0))), .bool true, .int .i64 lf, .bool bd]] := hS
      rw [hlaid] at hS
      (conv => whnf)
      refine hS.ld 0 rfl rfl ?_
      (conv => whnf)
      refine RngC.mk (by omega) (by omega) ?_
      (conv => whnf)
      refine hS.st 0 rfl (Nat.le_of_ble_eq_true rfl) rfl (fun w' hS => ?_)
      (conv => whnf)
      refine hS.ld 0 rfl rfl ?_
      repeat' ((conv => whnf); first | refine RetC.mk ?_ | refine NzC.mk (by decide) ?_ | refine RngC.mk (by omega) (by omega) ?_ | refine IdxC.mk (by omega) (by omega) ?_ | refine brD (fun _ => ?_) (fun _ => ?_) | refine brND (fun _ => ?_) (fun _ => ?_) | refine brN (fun _ => ?_) (fun _ => ?_) | refine brI (fun _ => ?_) (fun _ => ?_))
      exact ⟨rfl, hS.ext, hS.blk 0 rfl⟩
    · (conv => whnf)
      refine hS.ld 0 rfl rfl ?_
      refine KeepC.mk (Ext.refl _ _) ?_
      (conv => whnf)
      refine slcFrom (b := p + 0) Tryd.underlying9 (by omega) (by omega) rfl ?_
      (conv => whnf)
      refine hS.ld 0 rfl rfl ?_
      refine KeepC.mk (Ext.refl _ _) ?_
      (conv => whnf)
      refine slcTo (b := p) Tryd.underlying9 rfl (by omega) rfl ?_
      (conv => whnf)
      refine addS (by simp; omega) ?_
      (conv => whnf)
      refine addS (by simp; omega) ?_
      (conv => whnf)
      refine hS.stX 0 rfl (Nat.le_of_ble_eq_true rfl) rfl (fun w' hx' hS => ?_)
      refine KeepC.mk hx' ?_
      clear hx'
      replace hS : St w (· = b) w' [blk b 91 [.string (bs (D.take p ++ s.take 0 ++ D.drop (p + 0))), .bool true, .int .i64 lf, .bool bd]] := hS
      rw [hlaid] at hS
      (conv => whnf)
      refine hS.ld 0 rfl rfl ?_
      (conv => whnf)
      refine RngC.mk (by omega) (by omega) ?_
      (conv => whnf)
      refine hS.st 0 rfl (Nat.le_of_ble_eq_true rfl) rfl (fun w' hS => ?_)
      (conv => whnf)
      refine hS.ld 0 rfl rfl ?_
      repeat' ((conv => whnf); first | refine RetC.mk ?_ | refine NzC.mk (by decide) ?_ | refine RngC.mk (by omega) (by omega) ?_ | refine IdxC.mk (by omega) (by omega) ?_ | refine brD (fun _ => ?_) (fun _ => ?_) | refine brND (fun _ => ?_) (fun _ => ?_) | refine brN (fun _ => ?_) (fun _ => ?_) | refine brI (fun _ => ?_) (fun _ => ?_))
      exact ⟨rfl, hS.ext, hS.blk 0 rfl⟩
end
end Go.Proofs.YteakdmngllfodaaDoor
