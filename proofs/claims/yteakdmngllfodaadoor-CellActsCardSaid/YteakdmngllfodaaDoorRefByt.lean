
/-
  The reference's bytes, walked: they do what cell.Bytes does.
-/
import Derived.Test.YteakdmngllfodaaDoorRefSum
import Derived.Test.YteakdmngllfodaaDoorCellL
namespace Go.Proofs.YteakdmngllfodaaDoor
open Go Ev

/-- How the reference holds it: what is left counts only while it is bounded. -/
structure RBy where
  data : List UInt8
  off : Bool
  left : Int
  bnd : Bool
def encRB (B : RBy) : List Value := [.string (bs B.data), .bool B.off, .int .i64 B.left, .bool B.bnd]
/-- The two stand alike. -/
structure Alike (R : RBy) (B : BytS) : Prop where
  data : R.data = B.data
  off : R.off = B.off
  left : R.bnd = true → R.left = B.left ∧ 0 ≤ B.left
  free : R.bnd = false → B.left = -1
/-! ### How far a write goes -/
theorem write_free : ∀ (s : List UInt8) (d : List UInt8) (p : Nat), p + s.length ≤ d.length → BytS.write ⟨d, false, -1⟩ p s = (true, ⟨laid d p s, false, -1⟩)
  | [], d, p, _ => by rw [laid_nil]; rfl
  | x :: r, d, p, h => by
    rw [List.length_cons] at h
    rw [write_cons, if_neg (by simp)]
    have ih := write_free r (d.set p x) (p + 1) (by rw [List.length_set]; omega)
    rw [laid_cons h] at ih
    exact ih
theorem write_bnd : ∀ (s : List UInt8) (d : List UInt8) (p n : Nat), p + s.length ≤ d.length → BytS.write ⟨d, false, (n : Int)⟩ p s = if s.length ≤ n then (true, ⟨laid d p s, false, (n : Int) - s.length⟩) else (false, ⟨laid d p (s.take n), true, 0⟩)
  | [], d, p, n, _ => by
    rw [laid_nil, if_pos (by simp)]
    simp [write_nil]
  | x :: r, d, p, 0, h => by
    rw [write_cons, if_pos (by simp), if_neg (by simp), List.take_zero, laid_nil]
    rfl
  | x :: r, d, p, n + 1, h => by
    rw [List.length_cons] at h
    have e : (if ((n + 1 : Nat) : Int) - 1 > -1 then ((n + 1 : Nat) : Int) - 1 else -1) = (n : Int) := by
      rw [if_pos (by omega)]
      omega
    have ih := write_bnd r (d.set p x) (p + 1) n (by rw [List.length_set]; omega)
    rw [write_cons, if_neg (by simp; omega)]
    dsimp only
    rw [e, ih, List.take_succ_cons, List.length_cons]
    by_cases hn : r.length ≤ n
    · rw [if_pos hn, if_pos (by omega), laid_cons h]
      congr 2
      omega
    · rw [if_neg hn, if_neg (by omega), laid_cons (by rw [List.length_take]; omega)]
theorem write_off {d : List UInt8} {l : Int} {p : Nat} {s : List UInt8} (hs : s ≠ []) : BytS.write ⟨d, true, l⟩ p s = (false, ⟨d, true, l⟩) := by
  cases s with
  | nil => exact absurd rfl hs
  | cons x r => rw [write_cons, if_pos (.inl rfl)]
section
variable {w : World} {b : Nat} {B : BytS} {R : RBy}
theorem rbon_ok (hb : Blk w b 91 (encRB R)) : CallC Tryd.prog 57 #[.pointer (some ⟨b, 0, none⟩)] w fun _ w' => Ext (· = b) w w' ∧ Blk w' b 91 (encRB ⟨R.data, false, R.left, false⟩) := by
  refine fn_intro tabOk Tryd.func57 (by kernel_rfl) rfl Tryd.ntmps57 (Nat.le_of_ble_eq_true rfl) ?_
  have hS := (St.start w (· = b)).add (blk_local b _ _) hb (by simp [blk]; exact hb.lt) (by simp)
  (conv => whnf)
  refine hS.st 0 rfl (Nat.le_of_ble_eq_true rfl) rfl (fun w' hS => ?_)
  (conv => whnf)
  refine hS.st 0 rfl (Nat.le_of_ble_eq_true rfl) rfl (fun w' hS => ?_)
  repeat' ((conv => whnf); first | refine RetC.mk ?_ | refine NzC.mk (by decide) ?_ | refine RngC.mk (by omega) (by omega) ?_ | refine IdxC.mk (by omega) (by omega) ?_ | refine brD (fun _ => ?_) (fun _ => ?_) | refine brND (fun _ => ?_) (fun _ => ?_) | refine brN (fun _ => ?_) (fun _ => ?_) | refine brI (fun _ => ?_) (fun _ => ?_))
  exact ⟨hS.ext, hS.blk 0 rfl⟩
theorem rbcut_ok (k : Int) (hb : Blk w b 91 (encRB R)) : CallC Tryd.prog 58 #[.pointer (some ⟨b, 0, none⟩), .int .i64 k] w fun v w' => v = .int .i64 ((if k < 0 then 2 else if R.off = true then 7 else 0 : Nat) : Int) ∧ Ext (· = b) w w' ∧ Blk w' b 91 (encRB (if k < 0 ∨ R.off = true then R else ⟨R.data, R.off, k, true⟩)) := by
  refine fn_intro tabOk Tryd.func58 (by kernel_rfl) rfl Tryd.ntmps58 (Nat.le_of_ble_eq_true rfl) ?_
  have hS := (St.start w (· = b)).add (blk_local b _ _) hb (by simp [blk]; exact hb.lt) (by simp)
  (conv => whnf)
  refine brD (fun h1 => ?_) (fun h1 => ?_)
  · repeat' ((conv => whnf); first | refine RetC.mk ?_ | refine NzC.mk (by decide) ?_ | refine RngC.mk (by omega) (by omega) ?_ | refine IdxC.mk (by omega) (by omega) ?_ | refine brD (fun _ => ?_) (fun _ => ?_) | refine brND (fun _ => ?_) (fun _ => ?_) | refine brN (fun _ => ?_) (fun _ => ?_) | refine brI (fun _ => ?_) (fun _ => ?_))
    rw [if_pos h1, if_pos (.inl h1)]
    exact ⟨rfl, hS.ext, hS.blk 0 rfl⟩
  (conv => whnf)
  refine hS.ld 0 rfl rfl ?_
  rw [if_neg h1]
  cases ho : R.off
  · rw [if_neg (by simp), if_neg (by simp [h1])]
    (conv => whnf)
    refine hS.st 0 rfl (Nat.le_of_ble_eq_true rfl) rfl (fun w' hS => ?_)
    (conv => whnf)
    refine hS.st 0 rfl (Nat.le_of_ble_eq_true rfl) rfl (fun w' hS => ?_)
    repeat' ((conv => whnf); first | refine RetC.mk ?_ | refine NzC.mk (by decide) ?_ | refine RngC.mk (by omega) (by omega) ?_ | refine IdxC.mk (by omega) (by omega) ?_ | refine brD (fun _ => ?_) (fun _ => ?_) | refine brND (fun _ => ?_) (fun _ => ?_) | refine brN (fun _ => ?_) (fun _ => ?_) | refine brI (fun _ => ?_) (fun _ => ?_))
    exact ⟨rfl, hS.ext, (hS.blk 0 rfl).to (by rw [← ho]; rfl)⟩
  · rw [if_pos rfl, if_pos (.inr rfl)]
    repeat' ((conv => whnf); first | refine RetC.mk ?_ | refine NzC.mk (by decide) ?_ | refine RngC.mk (by omega) (by omega) ?_ | refine IdxC.mk (by omega) (by omega) ?_ | refine brD (fun _ => ?_) (fun _ => ?_) | refine brND (fun _ => ?_) (fun _ => ?_) | refine brN (fun _ => ?_) (fun _ => ?_) | refine brI (fun _ => ?_) (fun _ => ?_))
    exact ⟨rfl, hS.ext, hS.blk 0 rfl⟩
end
end Go.Proofs.YteakdmngllfodaaDoor
