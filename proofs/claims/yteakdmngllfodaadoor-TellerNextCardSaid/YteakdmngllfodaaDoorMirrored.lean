
/-
  What the laws on mirrors ask first; arguments that are cells.
-/
import Derived.Test.YteakdmngllfodaaDoorMirror
import Derived.Test.YteakdmngllfodaaDoorEvL
namespace Go.Proofs.YteakdmngllfodaaDoor
open Go Ev

def CellS.Ok (c : CellS) : Prop := ∀ p ∈ c.pr, p.ok
theorem dec_cell {w : World} {d : Nat} (hd : 10 ≤ d) : Dec Tryd.prog w d 55 encCell CellS.Ok := by
  intro cs h
  have h1 : flatK Tryd.prog 10 55 = some (List.replicate 10 .int ++ []) := by kernel_rfl
  have h2 : Tryd.prog.cellsOf 55 = (List.replicate 10 PK.int ++ []).length := (show Tryd.prog.cellsOf 55 = 10 by kernel_rfl).trans (by simp)
  obtain ⟨ps, rfl, hk, hok⟩ := shp_flat 10 d _ _ cs h1 hd h2 h
  obtain ⟨ns, r, rfl, hn, hr⟩ := kinds_ints 10 hk
  obtain rfl := kinds_nil hr
  match ns, hn with
  | [x0, x1, x2, x3, x4, x5, x6, x7, x8, x9], _ => exact ⟨⟨x0, x1, ⟨x2, x3, x4, x5, x6, x7, x8, x9⟩⟩, rfl, fun p hp => hok p (by simpa [CellS.pr] using hp)⟩

def c5 : CellS := ⟨5, 1, ⟨1, 0, 0, 0, 0, 0, 0, 0⟩⟩
theorem told5 : ∃ m, (MirS.mk 0 emptyCells).tell 3 [c5] = (0, m) ∧ m.life = 3 ∧ m.cells.length = 32 ∧ (flowsOf m.cells).length = 1 := ⟨((MirS.mk 0 emptyCells).tell 3 [c5]).2, by kernel_rfl, by kernel_rfl, by kernel_rfl, by kernel_rfl⟩

theorem Ev.St.ne {w0 w : World} {S : Nat → Prop} {H : List Ent} (h : St w0 S w H) (i j : Nat) {b c : Nat} {t u : TypeId} {cs ds : List Value} (hi : H[i]? = some (Ev.blk b t cs)) (hj : H[j]? = some (Ev.blk c u ds)) (hne : i ≠ j) : b ≠ c := by
  have := pairwise_at apart_symm h.apart hi hj hne b (by simp [Ev.blk])
  simpa [Ev.blk] using this

theorem same_ok {w : World} {G : CellS → Prop} {a b : Option Addr} {n m c d : Nat} {xs ys : List CellS} (hx : Slc w 10 encCell G a n xs) (hy : Slc w 10 encCell G b m ys) :
    CallC Tryd.prog 27 #[.slice a n c, .slice b m d] w fun v w' => v = .bool (decide (xs = ys)) ∧ Ext No w w' := by
  refine fn_intro tabOk Tryd.func27 (by kernel_rfl) rfl Tryd.ntmps27 (Nat.le_of_ble_eq_true rfl) ?_
  (conv => whnf)
  refine (equal_ok hx hy).mono ?_
  rintro v w' ⟨rfl, h⟩
  repeat' ((conv => whnf); first | refine RetC.mk ?_ | refine NzC.mk (by decide) ?_ | refine RngC.mk (by omega) (by omega) ?_ | refine IdxC.mk (by omega) (by omega) ?_ | refine brD (fun _ => ?_) (fun _ => ?_) | refine brND (fun _ => ?_) (fun _ => ?_) | refine brN (fun _ => ?_) (fun _ => ?_) | refine brI (fun _ => ?_) (fun _ => ?_))
  exact ⟨rfl, h⟩
end Go.Proofs.YteakdmngllfodaaDoor
