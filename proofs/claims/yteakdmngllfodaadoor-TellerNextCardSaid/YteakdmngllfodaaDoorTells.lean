
/-
  Package twinrampartlaw1, walked: tells.
-/
import Derived.Test.YteakdmngllfodaaDoorTellerB
namespace Go.Proofs.YteakdmngllfodaaDoor
open Go Ev

def tT0 : MirS := ⟨2000 + 0 * 24, emptyCells⟩
def tT1 : MirS := (tT0.add 1 0 1 0 2 2 9).2
theorem tells_law : lag tT0.cells tel0.told = 0 ∧ (tT0.add 1 0 1 0 2 2 9).1.2 = 0 ∧ lag tT1.cells tel0.told = 1 ∧ (tel0.picks tT1.cells).length = 8 ∧ lag tT1.cells (tel0.next tT1.cells).told = 0 ∧ tT1.cells.length = 32 ∧ (tel0.next tT1.cells).told.length = 32 := by decide +kernel

theorem tells_ok {E : Nat → Addr} {n : Nat} (w : World) (hE : Errs w E n [5, 6]) (hq : n ≤ w.heap.size) :
    CallC Tryd.prog 9 #[] w fun v w' => v = .bool true ∧ Ext No w w' := by
  obtain ⟨l1, l2, l3, l4, l5, l6, l7⟩ := tells_law
  have l0 : tT0.cells.length = 32 := emptyCells_len
  have l8 : tel0.told.length = 32 := by simp [tel0]
  have l9 : tel0.cursor < 32 := by decide
  refine fn_intro tabOk Tryd.func9 (by kernel_rfl) rfl Tryd.ntmps9 (Nat.le_of_ble_eq_true rfl) ?_
  have hS := St.start w No
  (conv => whnf)
  refine (tnew_ok 0 _ (.inl rfl)).mono ?_
  rintro v w' ⟨b, rfl, hb, hx', hB⟩
  replace hS := hS.made hx' (blk_local _ _ _) hB (by simp [blk]; exact ⟨hb, hB.lt⟩)
  have fb := hS.fresh 0 rfl
  clear hx' hB hb
  (conv => whnf)
  refine (tlNew_ok b _).mono ?_
  rintro v w' ⟨bx, rfl, hb, hx', hB⟩
  replace hS := hS.made hx' (blk_local _ _ _) hB (by simp [blk]; exact ⟨hb, hB.lt⟩)
  clear hx' hB hb
  (conv => whnf)
  refine (tlLag_ok (hS.blk 1 rfl) (hS.blk 0 rfl) l0 l8).mono ?_
  rintro v w' ⟨rfl, hx'⟩
  rw [show emptyCells = tT0.cells from rfl, l1]
  replace hS := hS.no hx'
  clear hx'
  (conv => whnf)
  refine (tadd_ok (T := tT0) 1 0 1 0 2 2 9 (hS.blk 0 rfl) l0 ((TOk.empty (2000 + 0 * 24)).verOk (by omega)) (by decide) (hE.ext hS.ext fun _ h => h.elim) (by omega)).mono ?_
  rintro v w' ⟨rfl, hx', hB⟩
  replace hS := hS.upd 0 rfl hx' (fun c hc => by subst hc; exact List.mem_singleton.2 rfl) (blk_local _ _ _) hB (fun c hc => .inl hc)
  clear hx' hB
  rw [l2]
  change St w No w' [blk b 100 (encM tT1), blk bx 103 (encTel b tel0)] at hS
  (conv => whnf)
  refine (tlLag_ok (hS.blk 1 rfl) (hS.blk 0 rfl) l6 l8).mono ?_
  rintro v w' ⟨rfl, hx'⟩
  rw [l3]
  replace hS := hS.no hx'
  clear hx'
  (conv => whnf)
  refine (tlNext_ok (hS.blk 1 rfl) (hS.blk 0 rfl) l6 l8 l9).mono ?_
  rintro v w' ⟨⟨a', c', rfl⟩, hx', hB, _, _⟩
  rw [l4]
  replace hS := hS.upd 1 rfl hx' (fun c hc => by subst hc; exact List.mem_singleton.2 rfl) (blk_local _ _ _) hB (fun c hc => .inl hc)
  clear hx' hB
  (conv => whnf)
  refine (tlLag_ok (hS.blk 1 rfl) (hS.blk 0 rfl) l6 l7).mono ?_
  rintro v w' ⟨rfl, hx'⟩
  rw [l5]
  replace hS := hS.no hx'
  clear hx'
  repeat' ((conv => whnf); first | refine RetC.mk ?_ | refine NzC.mk (by decide) ?_ | refine RngC.mk (by omega) (by omega) ?_ | refine IdxC.mk (by omega) (by omega) ?_ | refine brD (fun _ => ?_) (fun _ => ?_) | refine brND (fun _ => ?_) (fun _ => ?_) | refine brN (fun _ => ?_) (fun _ => ?_) | refine brI (fun _ => ?_) (fun _ => ?_))
  exact ⟨rfl, hS.ext⟩
end Go.Proofs.YteakdmngllfodaaDoor
