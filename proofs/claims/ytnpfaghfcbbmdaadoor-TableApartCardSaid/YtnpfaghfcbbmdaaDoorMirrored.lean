/-
  What the laws on mirrors ask first; arguments that are cells.
-/
import Derived.Test.YtnpfaghfcbbmdaaDoorMirror
import Derived.Test.YtnpfaghfcbbmdaaDoorEvL
namespace Go.Proofs.YtnpfaghfcbbmdaaDoor
open Go Ev

def CellS.Ok (c : CellS) : Prop := ∀ p ∈ c.pr, p.ok
theorem dec_cell {w : World} {d : Nat} (hd : 10 ≤ d) : Dec Tryd.prog w d 59 encCell CellS.Ok := by
  intro cs h
  have h1 : flatK Tryd.prog 10 59 = some (List.replicate 10 .int ++ []) := by kernel_rfl
  have h2 : Tryd.prog.cellsOf 59 = (List.replicate 10 PK.int ++ []).length := (show Tryd.prog.cellsOf 59 = 10 by kernel_rfl).trans (by simp)
  obtain ⟨ps, rfl, hk, hok⟩ := shp_flat 10 d _ _ cs h1 hd h2 h
  obtain ⟨ns, r, rfl, hn, hr⟩ := kinds_ints 10 hk
  obtain rfl := kinds_nil hr
  match ns, hn with
  | [x0, x1, x2, x3, x4, x5, x6, x7, x8, x9], _ => exact ⟨⟨x0, x1, ⟨x2, x3, x4, x5, x6, x7, x8, x9⟩⟩, rfl, fun p hp => hok p (by simpa [CellS.pr] using hp)⟩

def c5 : CellS := ⟨5, 1, ⟨1, 0, 0, 0, 0, 0, 0, 0⟩⟩
theorem told5 : ∃ m, (MirS.mk 0 emptyCells).tell 3 [c5] = (0, m) ∧ m.life = 3 ∧ m.cells.length = 32 ∧ (flowsOf m.cells).length = 1 := ⟨((MirS.mk 0 emptyCells).tell 3 [c5]).2, by kernel_rfl, by kernel_rfl, by kernel_rfl, by kernel_rfl⟩

theorem mirrored_ok {E : Nat → Addr} (w : World) {n : Nat} (hE : Errs w E n [2, 10]) (hn : n ≤ w.heap.size) : CallC Tryd.prog 33 #[] w fun v w' => v = .bool true ∧ Ext No w w' := by
  obtain ⟨m, ht, hl, hc, hf⟩ := told5
  refine fn_intro tabOk Tryd.func33 (by kernel_rfl) rfl Tryd.ntmps33 (Nat.le_of_ble_eq_true rfl) ?_
  have hS := St.start w No
  (conv => whnf)
  refine (new_ok w).mono ?_
  rintro v w' ⟨b, rfl, hb, hx, hB⟩
  replace hS := hS.made hx (blk_local _ _ _) hB (by simp [blk]; exact ⟨hb, hB.lt⟩)
  (conv => whnf)
  refine (life_ok (hS.blk 0 rfl)).mono ?_
  rintro v w' ⟨rfl, rfl⟩
  (conv => whnf)
  refine hS.lit (cs := encCell c5) Tryd.underlying53 (sz := 10) (by kernel_rfl) (z := .agg (encCell ⟨0, 0, noFlow⟩).toArray) (by kernel_rfl) rfl rfl (by rfl) (fun bl w' hbl hS => ?_)
  have hne : bl ≠ b := by
    rintro rfl
    have := (List.pairwise_cons.1 hS.apart).1 _ (List.mem_cons_self) bl (by simp [blk])
    simp [blk] at this
  (conv => whnf)
  refine (tell_ok (xs := [c5]) (G := fun _ => True) 3 (hS.blk 0 rfl) emptyCells_len ((hE.ext hS.ext fun _ h => h.elim)) (by omega) (Slc.of_blk codCell (hS.blk 1 rfl) rfl (by decide) (fun _ _ => trivial) rfl) (by rintro _ b0 o0 h; cases h; exact hne)).mono ?_
  rw [ht]
  rintro v w' ⟨rfl, hx, hB⟩
  replace hS := hS.upd 0 rfl hx (fun c hc => by subst hc; exact List.mem_singleton.2 rfl) (blk_local _ _ _) hB (fun c hc => .inl hc)
  (conv => whnf)
  refine (life_ok (hS.blk 0 rfl)).mono ?_
  rintro v w' ⟨rfl, rfl⟩
  rw [hl]
  (conv => whnf)
  refine (flows_ok (hS.blk 0 rfl) hc).mono ?_
  rw [hf]
  rintro v w' ⟨a', c', rfl, hx, _⟩
  replace hS := hS.no hx
  (conv => whnf)
  refine (cells_ok (hS.blk 0 rfl) hc).mono ?_
  rintro v w' ⟨a', c', rfl, hx, _⟩
  replace hS := hS.no hx
  repeat' ((conv => whnf); first | refine RetC.mk ?_ | refine NzC.mk (by decide) ?_ | refine RngC.mk (by omega) (by omega) ?_ | refine IdxC.mk (by omega) (by omega) ?_ | refine brD (fun _ => ?_) (fun _ => ?_) | refine brND (fun _ => ?_) (fun _ => ?_) | refine brN (fun _ => ?_) (fun _ => ?_) | refine brI (fun _ => ?_) (fun _ => ?_))
  exact ⟨rfl, hS.ext⟩

theorem Ev.St.ne {w0 w : World} {S : Nat → Prop} {H : List Ent} (h : St w0 S w H) (i j : Nat) {b c : Nat} {t u : TypeId} {cs ds : List Value} (hi : H[i]? = some (Ev.blk b t cs)) (hj : H[j]? = some (Ev.blk c u ds)) (hne : i ≠ j) : b ≠ c := by
  have := pairwise_at apart_symm h.apart hi hj hne b (by simp [Ev.blk])
  simpa [Ev.blk] using this

theorem same_ok {w : World} {G : CellS → Prop} {a b : Option Addr} {n m c d : Nat} {xs ys : List CellS} (hx : Slc w 10 encCell G a n xs) (hy : Slc w 10 encCell G b m ys) :
    CallC Tryd.prog 38 #[.slice a n c, .slice b m d] w fun v w' => v = .bool (decide (xs = ys)) ∧ Ext No w w' := by
  refine fn_intro tabOk Tryd.func38 (by kernel_rfl) rfl Tryd.ntmps38 (Nat.le_of_ble_eq_true rfl) ?_
  (conv => whnf)
  refine (equal_ok hx hy).mono ?_
  rintro v w' ⟨rfl, h⟩
  repeat' ((conv => whnf); first | refine RetC.mk ?_ | refine NzC.mk (by decide) ?_ | refine RngC.mk (by omega) (by omega) ?_ | refine IdxC.mk (by omega) (by omega) ?_ | refine brD (fun _ => ?_) (fun _ => ?_) | refine brND (fun _ => ?_) (fun _ => ?_) | refine brN (fun _ => ?_) (fun _ => ?_) | refine brI (fun _ => ?_) (fun _ => ?_))
  exact ⟨rfl, h⟩
end Go.Proofs.YtnpfaghfcbbmdaaDoor
