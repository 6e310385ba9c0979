/-
  Texts of this claim, joined: RefNodeT, RefNodeN, NodeL, NodeM, NodeAct, NodeActs.
-/
import Derived.Test.YtakdekkieobbaaaGreatDoorNodeActsG

/-
  The reference's node, walked: a tick.
-/
namespace Go.Proofs.YtakdekkieobbaaaGreatDoor
open Go Ev
def rnoteH (a : Option Addr) (c : Nat) (x : Option Addr) (y : Nat) (l : List NoteS) : List Ent := [ownL 53 5 encNV (.slice a (l.map (noteV x y)).length c) (l.map (noteV x y)), ownL 135 10 encCell (.slice x (cellsOfN l).length y) (cellsOfN l)]
theorem Ev.St.updS {w0 w w' : World} {S T : Nat → Prop} {H : List Ent} (h : St w0 S w H) (i : Nat) {e e' f : Ent} (hi : H[i]? = some e) (k : Ext T w w') (hT : ∀ b, T b → b ∈ e.foot) (hl : e'.Local) (hh : e'.holds w') (hf : ∀ b ∈ e'.foot, b ∈ e.foot) (gl : f.Local) (gh : f.holds w') (gf : ∀ b ∈ f.foot, w.heap.size ≤ b ∧ b < w'.heap.size) : St w0 S w' (H.set i e' ++ [f]) := h.updMade i hi k hT hl hh hf gl gh gf
section
variable {w : World} {A : RNodeA} {N : NodeS} {R : RBy} {B : BytS}
theorem rtick_ok {m j : Nat} (hN : Has w (rnodeH A N R)) (hO : NOk m N) (hB : BOk B) (hA : Alike R B) (hR : ROk R j) (hj : j ≤ 50000000) (hm : m + 34 ≤ 40000000) :
    CallC Tryz.prog 50 #[.pointer (some ⟨A.n, 0, none⟩)] w fun v w' => ∃ a c x y R', v = .tuple #[.slice a ((N.tick B).2.1.map (noteV x y)).length c, .int .i64 ((N.tick B).1 : Nat)] ∧ Alike R' (N.tick B).2.2.2 ∧ ROk R' (j + 18) ∧ Turns w w' (rnodeH A N R) (rnodeH A (N.tick B).2.2.1 R' ++ rnoteH a c x y (N.tick B).2.1) := by
  have hn0 := hO.n0
  have hR2 : ROk R (j + 18) := ⟨hR.len, hR.bnd, by have := hR.lo; omega, hR.hi⟩
  have hA2 := hA
  refine fn_intro tabOk Tryz.func50 (by kernel_rfl) rfl Tryz.ntmps50 (Nat.le_of_ble_eq_true rfl) ?_
  have hS := hN.start
  (conv => whnf)
  refine hS.ld 0 rfl rfl ?_
  (conv => whnf)
  refine brD (fun hn => ?_) (fun hn => ?_)
  · rw [show N.tick B = (2, [], N, B) from if_pos hn]
    repeat' ((conv => whnf); first | refine RetC.mk ?_ | refine NzC.mk (by decide) ?_ | refine RngC.mk (by omega) (by omega) ?_ | refine IdxC.mk (by omega) (by omega) ?_ | refine brD (fun _ => ?_) (fun _ => ?_) | refine brND (fun _ => ?_) (fun _ => ?_) | refine brN (fun _ => ?_) (fun _ => ?_) | refine brI (fun _ => ?_) (fun _ => ?_))
    exact ⟨none, 0, none, 0, R, rfl, hA2, hR2, St.turns ((hS.addNil 53 5 encNV).addNil 135 10 encCell)⟩
  (conv => whnf)
  refine hS.ld 0 rfl rfl ?_
  (conv => whnf)
  refine RngC.mk (by omega) (by omega) ?_
  (conv => whnf)
  refine hS.st 0 rfl (Nat.le_of_ble_eq_true rfl) rfl (fun w' hS => ?_)
  replace hS : St w (inF (rnodeH A N R)) w' (rnodeH A { N with now := N.now + 1 } R) := hS
  have hn3 := St.neF hS 0 3 rfl rfl (by decide) (c := A.t) (by simp [refT])
  have hn4 := St.neF hS 0 3 rfl rfl (by decide) (c := A.tg) (by simp [refT])
  (conv => whnf)
  (refine drawS tabOk mixed [] (fun b => b = A.t ∨ b = A.tg) [0, 1, 2, 3, 4, 5, 6, 7, 8] (by kernel_rfl) ?_; rintro w1 rfl; replace hS := hS.drew)
  repeat' ((conv => whnf); first | refine hS.ldF 0 rfl rfl (fun h => h.elim hn3 hn4) ?_)
  refine (rexpire_ok (N.now + 1) (hS.get 3 rfl) hO.tab (by omega)).mono ?_
  rintro v w' ⟨⟨a', c', rfl⟩, hx, hT, _, _⟩
  refine KeepC.mk hx ?_
  replace hS := hS.upd 3 rfl hx (fun d hd => by simpa [refT] using hd) refT_local hT (fun d hd => .inl hd)
  clear hx hT
  (conv => whnf)
  refine hS.ld 0 rfl rfl ?_
  (conv => whnf)
  refine (ref_tick (hS.blk 1 rfl) hO.role).mono ?_
  rintro v w' ⟨rfl, hx, hB1⟩
  replace hS := hS.upd 1 rfl hx (fun c hc => by subst hc; exact List.mem_singleton.2 rfl) (blk_local _ _ _) hB1 (fun c hc => .inl hc)
  clear hx hB1
  replace hS : St w (inF (rnodeH A N R)) w' (rnodeH A N.step.2 R) := hS
  have hO1 := hO.step (by omega) (by omega)
  cases hs : N.role.tick.1
  · have hO2 := hO1
    rw [show N.tick B = (0, (N.step.2.notes false).1, (N.step.2.notes false).2, B) by
      unfold NodeS.tick
      rw [if_neg hn, if_neg (by rw [show N.step.1 = N.role.tick.1 from rfl, hs]; decide)]]
    generalize N.step.2 = N2 at hS hO2 ⊢
    (conv => whnf)
    refine hS.ld 0 rfl rfl ?_
    (conv => whnf)
    refine hS.ld 1 rfl (v := .bool (N2).role.active) rfl ?_
    replace hS := hS.addNil 53 5 encNV
    cases hact : (N2).role.active
    · have hbt : (N2).beat = false := by
        unfold NodeS.beat
        rw [hact]
        rfl
      repeat' ((conv => whnf); first | refine RetC.mk ?_ | refine NzC.mk (by decide) ?_ | refine RngC.mk (by omega) (by omega) ?_ | refine IdxC.mk (by omega) (by omega) ?_ | refine brD (fun _ => ?_) (fun _ => ?_) | refine brND (fun _ => ?_) (fun _ => ?_) | refine brN (fun _ => ?_) (fun _ => ?_) | refine brI (fun _ => ?_) (fun _ => ?_))
      rw [notes_ff hbt]
      exact ⟨none, 0, none, 0, (R), rfl, hA2, hR2, St.turns (hS.addNil 135 10 encCell)⟩
    · skip
      (conv => whnf)
      refine hS.ld 0 rfl rfl ?_
      (conv => whnf)
      refine NzC.mk (by decide) ?_
      (conv => whnf)
      refine brD (fun hz => ?_) (fun hz => ?_)
      · have hbt : (N2).beat = true := by
          unfold NodeS.beat
          rw [hact, decide_eq_true hz]
          rfl
        (conv => whnf)
        (refine drawS tabOk mixed [] No [0, 1, 2, 3, 4, 5, 6, 7, 8, 9, 10, 11, 12, 13, 14, 15, 16, 17, 18, 19, 20, 21, 22] (by kernel_rfl) ?_; rintro w1 rfl; replace hS := hS.drew)
        have hK := hS.ref No
        repeat' ((conv => whnf); first | refine hS.ldF 0 rfl rfl id ?_ | refine hS.ldF 2 rfl rfl id ?_ | refine hS.ldF 1 rfl rfl id ?_)
        refine hS.litX Tryz.underlying118 (sz := 5) (by kernel_rfl) (z := .agg (encNV noNV).toArray) (by kernel_rfl) rfl rfl (cs := encNV ⟨(N2).id, (N2).cell.li, (N2).role.epoch, true, none, 0, 0⟩) (by rfl) (fun b9 w3 hb9 hx hS => ?_)
        replace hK := hK.trans hx
        refine KeepC.mk hK ?_
        clear hx
        (conv => whnf)
        refine hS.appX codNote 7 (ys := [⟨(N2).id, (N2).cell.li, (N2).role.epoch, true, none, 0, 0⟩]) (G := fun _ => True) Tryz.underlying118 (bytes := 56) (by kernel_rfl) (z := .agg (encNV noNV).toArray) (by kernel_rfl) rfl rfl (Slc.of_blk codNote (hS.blk 8 rfl) rfl (by simp) (fun _ _ => trivial) rfl) (by unfold maxLen; decide) (by decide) (fun a1 c1 w4 hx hS => ?_)
        replace hK := hK.trans (hx.mono fun q h => by simp [Value.ownBlock] at h)
        refine KeepC.mk hK ?_
        clear hx hK
        replace hS := hS.keep 8
        replace hS : St w (inF (rnodeH A N R)) w4 (rnodeH A (N2) (R) ++ [ownL 53 5 encNV (.slice a1 1 c1) [⟨(N2).id, (N2).cell.li, (N2).role.epoch, true, none, 0, 0⟩]]) := hS
        (conv => whnf)
        refine brD (fun _ => ?_) (fun h => absurd hz h)
        (conv => whnf)
        have hn4 := St.neF hS 0 4 rfl rfl (by decide) (c := A.x) (by simp [refL])
        have hn5 := St.neF hS 0 4 rfl rfl (by decide) (c := A.xg) (by simp [refL])
        have hn8 : ¬ (Value.slice a1 1 c1).ownBlock = some A.n := fun h => hS.apartAt 0 7 rfl rfl (by decide) _ (List.mem_singleton.2 rfl) (by simp only [ownL, own]; rw [h]; simp)
        have hc4 := St.neF hS 2 4 rfl rfl (by decide) (c := A.x) (by simp [refL])
        have hc5 := St.neF hS 2 4 rfl rfl (by decide) (c := A.xg) (by simp [refL])
        have hc8 : ¬ (Value.slice a1 1 c1).ownBlock = some A.c := fun h => hS.apartAt 2 7 rfl rfl (by decide) _ (List.mem_singleton.2 rfl) (by simp only [ownL, own]; rw [h]; simp)
        have hr4 := St.neF hS 1 4 rfl rfl (by decide) (c := A.x) (by simp [refL])
        have hr5 := St.neF hS 1 4 rfl rfl (by decide) (c := A.xg) (by simp [refL])
        have hr8 : ¬ (Value.slice a1 1 c1).ownBlock = some A.r := fun h => hS.apartAt 1 7 rfl rfl (by decide) _ (List.mem_singleton.2 rfl) (by simp only [ownL, own]; rw [h]; simp)
        have hap : ∀ b ∈ [A.t, A.tg], ¬ (b = A.x ∨ b = A.xg) := fun b hb hx => hS.apartAt 3 4 rfl rfl (by decide) b (by simpa [refT] using hb) (by simpa [refL] using hx)
        (refine drawS tabOk mixed [] (fun b => b = A.x ∨ b = A.xg ∨ (Value.slice a1 1 c1).ownBlock = some b) [0, 1, 2, 3, 4, 5, 6, 7, 8, 9, 10, 11, 12, 13, 14, 15, 16, 17, 18, 19, 20, 21, 22, 23, 24, 25, 26, 27] (by kernel_rfl) ?_; rintro w1 rfl; replace hS := hS.drew)
        have hK := hS.ref (fun b => b = A.x ∨ b = A.xg ∨ (Value.slice a1 1 c1).ownBlock = some b)
        repeat' ((conv => whnf); first | refine hS.ldF 0 rfl rfl (fun h => h.elim hn4 fun h => h.elim hn5 hn8) ?_ | refine hS.ldF 2 rfl rfl (fun h => h.elim hc4 fun h => h.elim hc5 hc8) ?_ | refine hS.ldF 1 rfl rfl (fun h => h.elim hr4 fun h => h.elim hr5 hr8) ?_)
        refine (rlNext_ok (hS.get 3 rfl) (hS.get 4 rfl) hap hO2.tab hO2.told hO2.cur).mono ?_
        rintro v w' ⟨⟨x, y, rfl⟩, hx, hB, ho, hf⟩
        replace hS := hS.updMade 4 rfl hx (fun c hc => by simpa [refL] using hc) refL_local hB (fun c hc => hc) ownL_local ho (fun g hg => hf g (by simpa [ownL, own] using hg))
        replace hK := hK.trans (hx.mono fun b h => h.elim .inl fun h => .inr (.inl h))
        refine KeepC.mk hK ?_
        clear hx hB ho hf
        (conv => whnf)
        refine hS.litX Tryz.underlying118 (sz := 5) (by kernel_rfl) (z := .agg (encNV noNV).toArray) (by kernel_rfl) rfl rfl (cs := encNV ⟨(N2).id, (N2).cell.li, (N2).role.epoch, false, x, ((N2).tel.picks (N2).tab.cells).length, y⟩) (by rfl) (fun b9 w3 hb9 hx hS => ?_)
        replace hK := hK.trans hx.of_no
        refine KeepC.mk hK ?_
        clear hx
        (conv => whnf)
        refine hS.appX codNote 7 (ys := [⟨(N2).id, (N2).cell.li, (N2).role.epoch, false, x, ((N2).tel.picks (N2).tab.cells).length, y⟩]) (G := fun _ => True) Tryz.underlying118 (bytes := 56) (by kernel_rfl) (z := .agg (encNV noNV).toArray) (by kernel_rfl) rfl rfl (Slc.of_blk codNote (hS.blk 9 rfl) rfl (by simp) (fun _ _ => trivial) rfl) (by unfold maxLen; show 1 + 1 ≤ _; decide) (by show (1 + 1) * 56 ≤ _; decide) (fun a2 c2 w4 hx hS => ?_)
        replace hK := hK.trans (hx.mono fun q h => .inr (.inr h))
        refine KeepC.mk hK ?_
        clear hx hK
        replace hS := hS.keep 9
        repeat' ((conv => whnf); first | refine RetC.mk ?_ | refine NzC.mk (by decide) ?_ | refine RngC.mk (by omega) (by omega) ?_ | refine IdxC.mk (by omega) (by omega) ?_ | refine brD (fun _ => ?_) (fun _ => ?_) | refine brND (fun _ => ?_) (fun _ => ?_) | refine brN (fun _ => ?_) (fun _ => ?_) | refine brI (fun _ => ?_) (fun _ => ?_))
        rw [notes_t hbt]
        replace hS : St w (inF (rnodeH A N R)) w4 (rnodeH A { (N2) with tel := (N2).tel.next (N2).tab.cells } (R) ++ rnoteH a2 c2 x y [⟨(N2).id, (N2).cell.li, (N2).role.epoch, true, []⟩, ⟨(N2).id, (N2).cell.li, (N2).role.epoch, false, outC (N2).tab.cells ((N2).tel.picks (N2).tab.cells)⟩]) := by
          have hc : cellsOfN [⟨(N2).id, (N2).cell.li, (N2).role.epoch, true, []⟩, ⟨(N2).id, (N2).cell.li, (N2).role.epoch, false, outC (N2).tab.cells ((N2).tel.picks (N2).tab.cells)⟩] = outC (N2).tab.cells ((N2).tel.picks (N2).tab.cells) := by simp [cellsOfN]
          have hv : [(⟨(N2).id, (N2).cell.li, (N2).role.epoch, true, []⟩ : NoteS), ⟨(N2).id, (N2).cell.li, (N2).role.epoch, false, outC (N2).tab.cells ((N2).tel.picks (N2).tab.cells)⟩].map (noteV x y) = [⟨(N2).id, (N2).cell.li, (N2).role.epoch, true, none, 0, 0⟩, ⟨(N2).id, (N2).cell.li, (N2).role.epoch, false, x, ((N2).tel.picks (N2).tab.cells).length, y⟩] := by simp [noteV, outC_len]
          unfold rnoteH
          rw [hc, hv, outC_len]
          exact hS
        exact ⟨a2, c2, x, y, (R), rfl, hA2, hR2, St.turns hS⟩
      · have hbt : (N2).beat = false := by
          unfold NodeS.beat
          rw [decide_eq_false hz, Bool.and_false]
        (conv => whnf)
        refine brD (fun h => absurd h hz) (fun _ => ?_)
        repeat' ((conv => whnf); first | refine RetC.mk ?_ | refine NzC.mk (by decide) ?_ | refine RngC.mk (by omega) (by omega) ?_ | refine IdxC.mk (by omega) (by omega) ?_ | refine brD (fun _ => ?_) (fun _ => ?_) | refine brND (fun _ => ?_) (fun _ => ?_) | refine brN (fun _ => ?_) (fun _ => ?_) | refine brI (fun _ => ?_) (fun _ => ?_))
        rw [notes_ff hbt]
        exact ⟨none, 0, none, 0, (R), rfl, hA2, hR2, St.turns (hS.addNil 135 10 encCell)⟩
  have hs1 : N.step.1 = true := hs
  have ha := step_active hs1
  rw [show N.tick B = if (N.step.2.claim B).1.2 ≠ 0 then ((N.step.2.claim B).1.2, [], (N.step.2.claim B).2.1, (N.step.2.claim B).2.2) else (0, ((N.step.2.claim B).2.1.notes (N.step.2.claim B).1.1).1, ((N.step.2.claim B).2.1.notes (N.step.2.claim B).1.1).2, (N.step.2.claim B).2.2) by
    unfold NodeS.tick
    rw [if_neg hn, if_pos hs1]]
  have hO2 := hO1.claim ha B
  generalize hNS : N.step.2 = NS at hS hO1 hO2 ha ⊢
  clear hNS hs1 hs hn hn3 hn4
  (conv => whnf)
  refine hS.ld 0 rfl rfl ?_
  (conv => whnf)
  refine (ref_next (hS.blk 1 rfl) hO1.role).mono ?_
  rintro v w2 ⟨rfl, rfl⟩
  by_cases hnx : NS.role.next.2 = 0
  case neg =>
    rw [show NS.claim B = ((false, 0), NS, B) from if_pos hnx] at hO2 ⊢
    rw [if_neg (show ¬ (((false, 0), NS, B) : (Bool × Nat) × NodeS × BytS).1.2 ≠ 0 by simp)]
    dsimp only at hO2 ⊢
    (conv => whnf)
    refine brD (fun h => absurd (by omega) hnx) (fun _ => ?_)
    (conv => whnf)
    refine hS.ld 0 rfl rfl ?_
    (conv => whnf)
    refine hS.ld 1 rfl (v := .bool (NS).role.active) rfl ?_
    replace hS := hS.addNil 53 5 encNV
    cases hact : (NS).role.active
    · have hbt : (NS).beat = false := by
        unfold NodeS.beat
        rw [hact]
        rfl
      repeat' ((conv => whnf); first | refine RetC.mk ?_ | refine NzC.mk (by decide) ?_ | refine RngC.mk (by omega) (by omega) ?_ | refine IdxC.mk (by omega) (by omega) ?_ | refine brD (fun _ => ?_) (fun _ => ?_) | refine brND (fun _ => ?_) (fun _ => ?_) | refine brN (fun _ => ?_) (fun _ => ?_) | refine brI (fun _ => ?_) (fun _ => ?_))
      rw [notes_ff hbt]
      exact ⟨none, 0, none, 0, (R), rfl, hA2, hR2, St.turns (hS.addNil 135 10 encCell)⟩
    · skip
      (conv => whnf)
      refine hS.ld 0 rfl rfl ?_
      (conv => whnf)
      refine NzC.mk (by decide) ?_
      (conv => whnf)
      refine brD (fun hz => ?_) (fun hz => ?_)
      · have hbt : (NS).beat = true := by
          unfold NodeS.beat
          rw [hact, decide_eq_true hz]
          rfl
        (conv => whnf)
        (refine drawS tabOk mixed [] No [0, 1, 2, 3, 4, 5, 6, 7, 8, 9, 10, 11, 12, 13, 14, 15, 16, 17, 18, 19, 20, 21, 22] (by kernel_rfl) ?_; rintro w1 rfl; replace hS := hS.drew)
        have hK := hS.ref No
        repeat' ((conv => whnf); first | refine hS.ldF 0 rfl rfl id ?_ | refine hS.ldF 2 rfl rfl id ?_ | refine hS.ldF 1 rfl rfl id ?_)
        refine hS.litX Tryz.underlying118 (sz := 5) (by kernel_rfl) (z := .agg (encNV noNV).toArray) (by kernel_rfl) rfl rfl (cs := encNV ⟨(NS).id, (NS).cell.li, (NS).role.epoch, true, none, 0, 0⟩) (by rfl) (fun b9 w3 hb9 hx hS => ?_)
        replace hK := hK.trans hx
        refine KeepC.mk hK ?_
        clear hx
        (conv => whnf)
        refine hS.appX codNote 7 (ys := [⟨(NS).id, (NS).cell.li, (NS).role.epoch, true, none, 0, 0⟩]) (G := fun _ => True) Tryz.underlying118 (bytes := 56) (by kernel_rfl) (z := .agg (encNV noNV).toArray) (by kernel_rfl) rfl rfl (Slc.of_blk codNote (hS.blk 8 rfl) rfl (by simp) (fun _ _ => trivial) rfl) (by unfold maxLen; decide) (by decide) (fun a1 c1 w4 hx hS => ?_)
        replace hK := hK.trans (hx.mono fun q h => by simp [Value.ownBlock] at h)
        refine KeepC.mk hK ?_
        clear hx hK
        replace hS := hS.keep 8
        replace hS : St w (inF (rnodeH A N R)) w4 (rnodeH A (NS) (R) ++ [ownL 53 5 encNV (.slice a1 1 c1) [⟨(NS).id, (NS).cell.li, (NS).role.epoch, true, none, 0, 0⟩]]) := hS
        (conv => whnf)
        refine brD (fun _ => ?_) (fun h => absurd hz h)
        (conv => whnf)
        have hn4 := St.neF hS 0 4 rfl rfl (by decide) (c := A.x) (by simp [refL])
        have hn5 := St.neF hS 0 4 rfl rfl (by decide) (c := A.xg) (by simp [refL])
        have hn8 : ¬ (Value.slice a1 1 c1).ownBlock = some A.n := fun h => hS.apartAt 0 7 rfl rfl (by decide) _ (List.mem_singleton.2 rfl) (by simp only [ownL, own]; rw [h]; simp)
        have hc4 := St.neF hS 2 4 rfl rfl (by decide) (c := A.x) (by simp [refL])
        have hc5 := St.neF hS 2 4 rfl rfl (by decide) (c := A.xg) (by simp [refL])
        have hc8 : ¬ (Value.slice a1 1 c1).ownBlock = some A.c := fun h => hS.apartAt 2 7 rfl rfl (by decide) _ (List.mem_singleton.2 rfl) (by simp only [ownL, own]; rw [h]; simp)
        have hr4 := St.neF hS 1 4 rfl rfl (by decide) (c := A.x) (by simp [refL])
        have hr5 := St.neF hS 1 4 rfl rfl (by decide) (c := A.xg) (by simp [refL])
        have hr8 : ¬ (Value.slice a1 1 c1).ownBlock = some A.r := fun h => hS.apartAt 1 7 rfl rfl (by decide) _ (List.mem_singleton.2 rfl) (by simp only [ownL, own]; rw [h]; simp)
        have hap : ∀ b ∈ [A.t, A.tg], ¬ (b = A.x ∨ b = A.xg) := fun b hb hx => hS.apartAt 3 4 rfl rfl (by decide) b (by simpa [refT] using hb) (by simpa [refL] using hx)
        (refine drawS tabOk mixed [] (fun b => b = A.x ∨ b = A.xg ∨ (Value.slice a1 1 c1).ownBlock = some b) [0, 1, 2, 3, 4, 5, 6, 7, 8, 9, 10, 11, 12, 13, 14, 15, 16, 17, 18, 19, 20, 21, 22, 23, 24, 25, 26, 27] (by kernel_rfl) ?_; rintro w1 rfl; replace hS := hS.drew)
        have hK := hS.ref (fun b => b = A.x ∨ b = A.xg ∨ (Value.slice a1 1 c1).ownBlock = some b)
        repeat' ((conv => whnf); first | refine hS.ldF 0 rfl rfl (fun h => h.elim hn4 fun h => h.elim hn5 hn8) ?_ | refine hS.ldF 2 rfl rfl (fun h => h.elim hc4 fun h => h.elim hc5 hc8) ?_ | refine hS.ldF 1 rfl rfl (fun h => h.elim hr4 fun h => h.elim hr5 hr8) ?_)
        refine (rlNext_ok (hS.get 3 rfl) (hS.get 4 rfl) hap hO2.tab hO2.told hO2.cur).mono ?_
        rintro v w' ⟨⟨x, y, rfl⟩, hx, hB, ho, hf⟩
        replace hS := hS.updMade 4 rfl hx (fun c hc => by simpa [refL] using hc) refL_local hB (fun c hc => hc) ownL_local ho (fun g hg => hf g (by simpa [ownL, own] using hg))
        replace hK := hK.trans (hx.mono fun b h => h.elim .inl fun h => .inr (.inl h))
        refine KeepC.mk hK ?_
        clear hx hB ho hf
        (conv => whnf)
        refine hS.litX Tryz.underlying118 (sz := 5) (by kernel_rfl) (z := .agg (encNV noNV).toArray) (by kernel_rfl) rfl rfl (cs := encNV ⟨(NS).id, (NS).cell.li, (NS).role.epoch, false, x, ((NS).tel.picks (NS).tab.cells).length, y⟩) (by rfl) (fun b9 w3 hb9 hx hS => ?_)
        replace hK := hK.trans hx.of_no
        refine KeepC.mk hK ?_
        clear hx
        (conv => whnf)
        refine hS.appX codNote 7 (ys := [⟨(NS).id, (NS).cell.li, (NS).role.epoch, false, x, ((NS).tel.picks (NS).tab.cells).length, y⟩]) (G := fun _ => True) Tryz.underlying118 (bytes := 56) (by kernel_rfl) (z := .agg (encNV noNV).toArray) (by kernel_rfl) rfl rfl (Slc.of_blk codNote (hS.blk 9 rfl) rfl (by simp) (fun _ _ => trivial) rfl) (by unfold maxLen; show 1 + 1 ≤ _; decide) (by show (1 + 1) * 56 ≤ _; decide) (fun a2 c2 w4 hx hS => ?_)
        replace hK := hK.trans (hx.mono fun q h => .inr (.inr h))
        refine KeepC.mk hK ?_
        clear hx hK
        replace hS := hS.keep 9
        repeat' ((conv => whnf); first | refine RetC.mk ?_ | refine NzC.mk (by decide) ?_ | refine RngC.mk (by omega) (by omega) ?_ | refine IdxC.mk (by omega) (by omega) ?_ | refine brD (fun _ => ?_) (fun _ => ?_) | refine brND (fun _ => ?_) (fun _ => ?_) | refine brN (fun _ => ?_) (fun _ => ?_) | refine brI (fun _ => ?_) (fun _ => ?_))
        rw [notes_t hbt]
        replace hS : St w (inF (rnodeH A N R)) w4 (rnodeH A { (NS) with tel := (NS).tel.next (NS).tab.cells } (R) ++ rnoteH a2 c2 x y [⟨(NS).id, (NS).cell.li, (NS).role.epoch, true, []⟩, ⟨(NS).id, (NS).cell.li, (NS).role.epoch, false, outC (NS).tab.cells ((NS).tel.picks (NS).tab.cells)⟩]) := by
          have hc : cellsOfN [⟨(NS).id, (NS).cell.li, (NS).role.epoch, true, []⟩, ⟨(NS).id, (NS).cell.li, (NS).role.epoch, false, outC (NS).tab.cells ((NS).tel.picks (NS).tab.cells)⟩] = outC (NS).tab.cells ((NS).tel.picks (NS).tab.cells) := by simp [cellsOfN]
          have hv : [(⟨(NS).id, (NS).cell.li, (NS).role.epoch, true, []⟩ : NoteS), ⟨(NS).id, (NS).cell.li, (NS).role.epoch, false, outC (NS).tab.cells ((NS).tel.picks (NS).tab.cells)⟩].map (noteV x y) = [⟨(NS).id, (NS).cell.li, (NS).role.epoch, true, none, 0, 0⟩, ⟨(NS).id, (NS).cell.li, (NS).role.epoch, false, x, ((NS).tel.picks (NS).tab.cells).length, y⟩] := by simp [noteV, outC_len]
          unfold rnoteH
          rw [hc, hv, outC_len]
          exact hS
        exact ⟨a2, c2, x, y, (R), rfl, hA2, hR2, St.turns hS⟩
      · have hbt : (NS).beat = false := by
          unfold NodeS.beat
          rw [decide_eq_false hz, Bool.and_false]
        (conv => whnf)
        refine brD (fun h => absurd h hz) (fun _ => ?_)
        repeat' ((conv => whnf); first | refine RetC.mk ?_ | refine NzC.mk (by decide) ?_ | refine RngC.mk (by omega) (by omega) ?_ | refine IdxC.mk (by omega) (by omega) ?_ | refine brD (fun _ => ?_) (fun _ => ?_) | refine brND (fun _ => ?_) (fun _ => ?_) | refine brN (fun _ => ?_) (fun _ => ?_) | refine brI (fun _ => ?_) (fun _ => ?_))
        rw [notes_ff hbt]
        exact ⟨none, 0, none, 0, (R), rfl, hA2, hR2, St.turns (hS.addNil 135 10 encCell)⟩
  have hcl := RoleS.claim_next ha hnx
  have hpos := RoleS.next_pos hO1.role hnx
  rw [hnx]
  have hn1 := hS.ne 0 2 rfl rfl (by decide)
  have hn2 := hS.ne 0 6 rfl rfl (by decide)
  (conv => whnf)
  (refine drawS tabOk mixed [11] (fun b => b = A.b ∨ b = A.c) [0, 1, 2, 3, 4, 5, 6, 7, 8, 9, 10, 11, 12, 13] (by kernel_rfl) ?_; rintro w1 rfl; replace hS := hS.drew)
  have hK := hS.ref (fun b => b = A.b ∨ b = A.c)
  repeat' ((conv => whnf); first | refine hS.ldF 0 rfl rfl (fun h => h.elim hn2 hn1) ?_ | (refine hS.ld 2 rfl rfl ?_; refine KeepC.mk hK ?_))
  refine (rcput_ok NS.role.next.1 NS.cell.li (hS.blk 2 rfl) (hS.blk 6 rfl) hA hB hR hj hO1.num).mono ?_
  rintro v w4 ⟨rfl, hx, R', hA', hR', hB1, hC1⟩
  have hs0 := hS.sel [6, 2, 0, 1, 3, 4, 5] (by decide)
  have hs1 := (Ev.St.upd2 hs0 hx (by simp [blk]) (blk_local _ _ _) hB1 rfl (blk_local _ _ _) hC1 rfl).sel [2, 3, 1, 4, 5, 6, 0] (by decide)
  refine KeepC.mk (hK.trans hx) ?_
  clear hS hs0 hB1 hC1 hx hK hA2 hR2 hA
  have hA2 := hA'
  have hR2 := hR'
  clear hA' hR'
  by_cases hp : (NS.cell.put B NS.role.next.1 NS.cell.li).1 = 0
  case neg =>
    rw [show NS.claim B = ((false, (NS.cell.put B NS.role.next.1 NS.cell.li).1), { NS with cell := (NS.cell.put B NS.role.next.1 NS.cell.li).2.2 }, (NS.cell.put B NS.role.next.1 NS.cell.li).2.1) by
      unfold NodeS.claim
      rw [if_neg (fun h => h hnx), if_pos hp]]
    rw [if_pos (show (((false, (NS.cell.put B NS.role.next.1 NS.cell.li).1), { NS with cell := (NS.cell.put B NS.role.next.1 NS.cell.li).2.2 }, (NS.cell.put B NS.role.next.1 NS.cell.li).2.1) : (Bool × Nat) × NodeS × BytS).1.2 ≠ 0 from hp)]
    (conv => whnf)
    refine brD (fun _ => ?_) (fun h => absurd (show ((NS.cell.put B NS.role.next.1 NS.cell.li).1 : Int) > 0 by omega) h)
    repeat' ((conv => whnf); first | refine RetC.mk ?_ | refine NzC.mk (by decide) ?_ | refine RngC.mk (by omega) (by omega) ?_ | refine IdxC.mk (by omega) (by omega) ?_ | refine brD (fun _ => ?_) (fun _ => ?_) | refine brND (fun _ => ?_) (fun _ => ?_) | refine brN (fun _ => ?_) (fun _ => ?_) | refine brI (fun _ => ?_) (fun _ => ?_))
    exact ⟨none, 0, none, 0, R', rfl, hA2, hR2, St.turns ((Ev.St.addNil hs1 53 5 encNV).addNil 135 10 encCell)⟩
  have hcl2 : NS.claim B = ((true, 0), { NS with cell := (NS.cell.put B NS.role.next.1 NS.cell.li).2.2, role := (NS.role.claim NS.role.next.1).2, tab := putAll NS.now NS.tab (flowsOf NS.mir.cells) }, (NS.cell.put B NS.role.next.1 NS.cell.li).2.1) := by
    unfold NodeS.claim
    rw [if_neg (fun h => h hnx), if_neg (fun h => h hp)]
  rw [hcl2] at hO2 ⊢
  clear hcl2
  rw [if_neg (show ¬ (((true, 0), { NS with cell := (NS.cell.put B NS.role.next.1 NS.cell.li).2.2, role := (NS.role.claim NS.role.next.1).2, tab := putAll NS.now NS.tab (flowsOf NS.mir.cells) }, (NS.cell.put B NS.role.next.1 NS.cell.li).2.1) : (Bool × Nat) × NodeS × BytS).1.2 ≠ 0 by simp)]
  dsimp only at hO2 ⊢
  rw [hp]
  generalize (NS.cell.put B NS.role.next.1 NS.cell.li).2 = BC at hs1 hO2 hA2 ⊢
  obtain ⟨B2, C2⟩ := BC
  have hS : St w (inF (rnodeH A N R)) w4 (rnodeH A { NS with cell := C2 } R') := hs1
  clear hs1
  dsimp only at hO2 hA2 ⊢
  (conv => whnf)
  refine hS.ld 0 rfl rfl ?_
  (conv => whnf)
  refine (ref_claim NS.role.next.1 (hS.blk 1 rfl) hO1.role).mono ?_
  rintro v w' ⟨rfl, hx, hB1⟩
  replace hS := hS.upd 1 rfl hx (fun c hc => by subst hc; exact List.mem_singleton.2 rfl) (blk_local _ _ _) hB1 (fun c hc => .inl hc)
  clear hx hB1
  replace hS : St w (inF (rnodeH A N R)) w' (rnodeH A { NS with cell := C2, role := (NS.role.claim NS.role.next.1).2 } R') := hS
  (conv => whnf)
  refine hS.ld 0 rfl rfl ?_
  (conv => whnf)
  refine ldc ((hS.get 5 rfl).2.1.cell 1) ?_
  have hml := hO1.mir
  have hsl : Slc w' 10 encCell (fun _ => True) (some ⟨A.mg, 0, none⟩) 32 NS.mir.cells := ownL_slc (G := fun _ => True) codCell (hS.get 5 rfl).2.2 fun _ _ => trivial
  (conv => whnf)
  refine (flowsOf_ok hsl (by decide)).mono ?_
  rintro v w' ⟨a, c, rfl, hx, ho, hf⟩
  replace hS := hS.made hx ownL_local ho (fun g hg => hf g (by simpa [ownL, own] using hg))
  clear hx ho hf hsl
  have hlen := flowsOf_len NS.mir.cells
  rw [hml] at hlen
  generalize flowsOf NS.mir.cells = l at hS hlen hO2 ⊢
  generalize (NS.role.claim NS.role.next.1).2 = r2 at hS hO2 ⊢
  have hn0 := hO1.n0
  have hn9 := hO1.n1
  (conv => whnf)
  refine loopR tabOk (fun σ w' q => ∃ k : Nat, σ = [(10, .int .i64 k), (9, .slice a l.length c), (4, .bool true), (0, .pointer (some ⟨A.n, 0, none⟩))] ∧ q = l.length - k ∧ k ≤ l.length ∧ St w (inF (rnodeH A N R)) w' (rnodeH A { NS with cell := C2, role := r2, tab := putAll NS.now NS.tab (l.take k) } R' ++ [ownL 133 8 encFlow (.slice a l.length c) l]))
    (σ' := [(10, .int .i64 ((0 : Nat) : Int)), (9, .slice a l.length c), (4, .bool true), (0, .pointer (some ⟨A.n, 0, none⟩))]) (n := l.length) ⟨rfl, rfl, rfl, rfl, trivial⟩ ⟨0, rfl, rfl, Nat.zero_le _, hS⟩ ?_
  clear hS
  rintro _ w1 q' ⟨k, rfl, rfl, hk, hS⟩
  (conv => whnf)
  refine brD (fun h3 => ?_) (fun h3 => ?_)
  · obtain ⟨b0, o0, x, hxk, _, rfl, hb0, hc⟩ := (ownL_slc (G := fun _ => True) codFlow (hS.get 7 rfl) (fun _ _ => trivial)).at (k := k) (by omega)
    have hstep := putAll_step NS.now NS.tab hxk
    have hTk := putAll_ok NS.now (l.take k) hO1.tab
    have hlk : (l.take k).length ≤ 32 := by rw [List.length_take]; omega
    generalize putAll NS.now NS.tab (l.take k) = T at hS hstep hTk
    (conv => whnf)
    refine IdxC.mk (by omega) (by omega) ?_
    (conv => whnf)
    refine ⟨encFlow x, rfl, hc, ?_⟩
    (conv => whnf)
    refine hS.new (fun bf w' hbf hS => ?_)
    (conv => whnf)
    refine hS.st 8 rfl (Nat.le_of_ble_eq_true rfl) rfl (fun w' hS => ?_)
    replace hS : St w (inF (rnodeH A N R)) w' (rnodeH A { NS with cell := C2, role := r2, tab := T } R' ++ [ownL 133 8 encFlow (.slice (some ⟨b0, o0, none⟩) l.length c) l, blk bf 133 (encFlow x)]) := hS
    have hf1 := hS.ne 0 8 rfl rfl (by decide)
    have hf3 := St.neF hS 8 3 rfl rfl (by decide) (c := A.tg) (by simp [refT])
    have hf4 := St.neF hS 0 3 rfl rfl (by decide) (c := A.tg) (by simp [refT])
    have htb := timeS_bound x.proto x.state
    (conv => whnf)
    refine drawI tabOk mixed [] (fun w1 w' => Ext (· = bf) w1 w' ∧ ∃ y, Blk w' bf 133 (encFlow { x with til := y })) [0, 1, 2, 3, 4, 5, 6, 7, 8, 9, 10, 11] (by kernel_rfl) ?_
    rintro w1 rfl
    replace hS := hS.drew
    refine ⟨⟨Ext.refl _ _, x.til, hS.blk 8 rfl⟩, ?_⟩
    have hK := hS.ref (· = bf)
    (conv => whnf)
    refine LdF.imp (fun _ h => h.1) (hS.ldF 0 rfl rfl hf1 ?_)
    (conv => whnf)
    refine ⟨.int .i64 x.proto, fun w' h => by obtain ⟨_, y, h⟩ := h; rw [h.cell]; rfl, ?_⟩
    (conv => whnf)
    refine ⟨.int .i64 x.state, fun w' h => by obtain ⟨_, y, h⟩ := h; rw [h.cell]; rfl, ?_⟩
    (conv => whnf)
    refine (timeOf_ok _ _ _).mono ?_
    rintro v w' ⟨rfl, rfl⟩
    refine KeepC.mk ⟨hK, x.til, hS.blk 8 rfl⟩ ?_
    (conv => whnf)
    refine RngC.mk (by dsimp only; omega) (by dsimp only; omega) ?_
    (conv => whnf)
    refine hS.stK hK 8 rfl (Nat.le_of_ble_eq_true rfl) rfl rfl (fun w' hK hS => KeepC.mk ⟨hK, NS.now + timeS x.proto x.state, hS.blk 8 rfl⟩ ?_)
    clear hK
    (conv => whnf)
    (refine drawS tabOk mixed [] (fun b => b = A.tg) [0, 1, 2, 3, 4, 5] (by kernel_rfl) ?_; rintro w1 rfl; replace hS := hS.drew)
    repeat' ((conv => whnf); first | refine hS.laXF 8 rfl rfl hf3 ?_ | refine hS.ldF 0 rfl rfl hf4 ?_)
    refine (rput_ok { x with til := NS.now + timeS x.proto x.state } (hS.get 3 rfl) hTk (by omega)).mono ?_
    rintro v w' ⟨rfl, hx, hT⟩
    refine KeepC.mk hx ?_
    replace hS := hS.upd 3 rfl hx (fun d hd => by subst hd; simp [refT]) refT_local hT (fun d hd => .inl hd)
    rw [← hstep] at hS
    (conv => whnf)
    refine RngC.mk (by omega) (by omega) ?_
    (conv => whnf)
    refine LoopE.mk ⟨_, [(10, .int .i64 ((k + 1 : Nat) : Int)), (9, _), (4, _), (0, _)], ?_, ⟨rfl, rfl, rfl, rfl, trivial⟩, ⟨k + 1, rfl, rfl, by omega, hS.keep 8⟩⟩
    omega
  obtain rfl : k = l.length := by omega
  rw [List.take_length] at hS
  replace hS := hS.keep 7
  replace hS : St w (inF (rnodeH A N R)) w1 (rnodeH A { NS with cell := C2, role := r2, tab := putAll NS.now NS.tab l } R') := hS
  generalize hN3 : ({ NS with cell := C2, role := r2, tab := putAll NS.now NS.tab l } : NodeS) = N3 at hS hO2 ⊢
  clear hN3
  (conv => whnf)
  refine hS.ld 0 rfl rfl ?_
  (conv => whnf)
  refine hS.ld 1 rfl (v := .bool (N3).role.active) rfl ?_
  replace hS := hS.addNil 53 5 encNV
  cases hact : (N3).role.active
  · have hbt : (N3).beat = false := by
      unfold NodeS.beat
      rw [hact]
      rfl
    (conv => whnf)
    (refine drawS tabOk mixed [] No [0, 1, 2, 3, 4, 5, 6, 7, 8, 9, 10, 11, 12, 13, 14, 15, 16, 17, 18, 19, 20, 21, 22] (by kernel_rfl) ?_; rintro w1 rfl; replace hS := hS.drew)
    have hK := hS.ref No
    repeat' ((conv => whnf); first | refine hS.ldF 0 rfl rfl id ?_ | refine hS.ldF 2 rfl rfl id ?_ | refine hS.ldF 1 rfl rfl id ?_)
    refine hS.litX Tryz.underlying118 (sz := 5) (by kernel_rfl) (z := .agg (encNV noNV).toArray) (by kernel_rfl) rfl rfl (cs := encNV ⟨(N3).id, (N3).cell.li, (N3).role.epoch, true, none, 0, 0⟩) (by rfl) (fun b9 w3 hb9 hx hS => ?_)
    replace hK := hK.trans hx
    refine KeepC.mk hK ?_
    clear hx
    (conv => whnf)
    refine hS.appX codNote 7 (ys := [⟨(N3).id, (N3).cell.li, (N3).role.epoch, true, none, 0, 0⟩]) (G := fun _ => True) Tryz.underlying118 (bytes := 56) (by kernel_rfl) (z := .agg (encNV noNV).toArray) (by kernel_rfl) rfl rfl (Slc.of_blk codNote (hS.blk 8 rfl) rfl (by simp) (fun _ _ => trivial) rfl) (by unfold maxLen; decide) (by decide) (fun a1 c1 w4 hx hS => ?_)
    replace hK := hK.trans (hx.mono fun q h => by simp [Value.ownBlock] at h)
    refine KeepC.mk hK ?_
    clear hx hK
    replace hS := hS.keep 8
    repeat' ((conv => whnf); first | refine RetC.mk ?_ | refine NzC.mk (by decide) ?_ | refine RngC.mk (by omega) (by omega) ?_ | refine IdxC.mk (by omega) (by omega) ?_ | refine brD (fun _ => ?_) (fun _ => ?_) | refine brND (fun _ => ?_) (fun _ => ?_) | refine brN (fun _ => ?_) (fun _ => ?_) | refine brI (fun _ => ?_) (fun _ => ?_))
    rw [notes_tf hbt]
    exact ⟨a1, c1, none, 0, (R'), rfl, hA2, hR2, St.turns (hS.addNil 135 10 encCell)⟩
  · skip
    (conv => whnf)
    refine hS.ld 0 rfl rfl ?_
    (conv => whnf)
    refine NzC.mk (by decide) ?_
    by_cases hz : (N3).now.tmod 3 = 0
    · have hbt : (N3).beat = true := by
        unfold NodeS.beat
        rw [hact, decide_eq_true hz]
        rfl
      (conv => whnf)
      (refine drawS tabOk mixed [] No [0, 1, 2, 3, 4, 5, 6, 7, 8, 9, 10, 11, 12, 13, 14, 15, 16, 17, 18, 19, 20, 21, 22] (by kernel_rfl) ?_; rintro w1 rfl; replace hS := hS.drew)
      have hK := hS.ref No
      repeat' ((conv => whnf); first | refine hS.ldF 0 rfl rfl id ?_ | refine hS.ldF 2 rfl rfl id ?_ | refine hS.ldF 1 rfl rfl id ?_)
      refine hS.litX Tryz.underlying118 (sz := 5) (by kernel_rfl) (z := .agg (encNV noNV).toArray) (by kernel_rfl) rfl rfl (cs := encNV ⟨(N3).id, (N3).cell.li, (N3).role.epoch, true, none, 0, 0⟩) (by rfl) (fun b9 w3 hb9 hx hS => ?_)
      replace hK := hK.trans hx
      refine KeepC.mk hK ?_
      clear hx
      (conv => whnf)
      refine hS.appX codNote 7 (ys := [⟨(N3).id, (N3).cell.li, (N3).role.epoch, true, none, 0, 0⟩]) (G := fun _ => True) Tryz.underlying118 (bytes := 56) (by kernel_rfl) (z := .agg (encNV noNV).toArray) (by kernel_rfl) rfl rfl (Slc.of_blk codNote (hS.blk 8 rfl) rfl (by simp) (fun _ _ => trivial) rfl) (by unfold maxLen; decide) (by decide) (fun a1 c1 w4 hx hS => ?_)
      replace hK := hK.trans (hx.mono fun q h => by simp [Value.ownBlock] at h)
      refine KeepC.mk hK ?_
      clear hx hK
      replace hS := hS.keep 8
      replace hS : St w (inF (rnodeH A N R)) w4 (rnodeH A (N3) (R') ++ [ownL 53 5 encNV (.slice a1 1 c1) [⟨(N3).id, (N3).cell.li, (N3).role.epoch, true, none, 0, 0⟩]]) := hS
      (conv => whnf)
      refine brD (fun _ => ?_) (fun h => absurd hz h)
      (conv => whnf)
      have hn4 := St.neF hS 0 4 rfl rfl (by decide) (c := A.x) (by simp [refL])
      have hn5 := St.neF hS 0 4 rfl rfl (by decide) (c := A.xg) (by simp [refL])
      have hn8 : ¬ (Value.slice a1 1 c1).ownBlock = some A.n := fun h => hS.apartAt 0 7 rfl rfl (by decide) _ (List.mem_singleton.2 rfl) (by simp only [ownL, own]; rw [h]; simp)
      have hc4 := St.neF hS 2 4 rfl rfl (by decide) (c := A.x) (by simp [refL])
      have hc5 := St.neF hS 2 4 rfl rfl (by decide) (c := A.xg) (by simp [refL])
      have hc8 : ¬ (Value.slice a1 1 c1).ownBlock = some A.c := fun h => hS.apartAt 2 7 rfl rfl (by decide) _ (List.mem_singleton.2 rfl) (by simp only [ownL, own]; rw [h]; simp)
      have hr4 := St.neF hS 1 4 rfl rfl (by decide) (c := A.x) (by simp [refL])
      have hr5 := St.neF hS 1 4 rfl rfl (by decide) (c := A.xg) (by simp [refL])
      have hr8 : ¬ (Value.slice a1 1 c1).ownBlock = some A.r := fun h => hS.apartAt 1 7 rfl rfl (by decide) _ (List.mem_singleton.2 rfl) (by simp only [ownL, own]; rw [h]; simp)
      have hap : ∀ b ∈ [A.t, A.tg], ¬ (b = A.x ∨ b = A.xg) := fun b hb hx => hS.apartAt 3 4 rfl rfl (by decide) b (by simpa [refT] using hb) (by simpa [refL] using hx)
      (refine drawS tabOk mixed [] (fun b => b = A.x ∨ b = A.xg ∨ (Value.slice a1 1 c1).ownBlock = some b) [0, 1, 2, 3, 4, 5, 6, 7, 8, 9, 10, 11, 12, 13, 14, 15, 16, 17, 18, 19, 20, 21, 22, 23, 24, 25, 26, 27] (by kernel_rfl) ?_; rintro w1 rfl; replace hS := hS.drew)
      have hK := hS.ref (fun b => b = A.x ∨ b = A.xg ∨ (Value.slice a1 1 c1).ownBlock = some b)
      repeat' ((conv => whnf); first | refine hS.ldF 0 rfl rfl (fun h => h.elim hn4 fun h => h.elim hn5 hn8) ?_ | refine hS.ldF 2 rfl rfl (fun h => h.elim hc4 fun h => h.elim hc5 hc8) ?_ | refine hS.ldF 1 rfl rfl (fun h => h.elim hr4 fun h => h.elim hr5 hr8) ?_)
      refine (rlNext_ok (hS.get 3 rfl) (hS.get 4 rfl) hap hO2.tab hO2.told hO2.cur).mono ?_
      rintro v w' ⟨⟨x, y, rfl⟩, hx, hB, ho, hf⟩
      replace hS := hS.updMade 4 rfl hx (fun c hc => by simpa [refL] using hc) refL_local hB (fun c hc => hc) ownL_local ho (fun g hg => hf g (by simpa [ownL, own] using hg))
      replace hK := hK.trans (hx.mono fun b h => h.elim .inl fun h => .inr (.inl h))
      refine KeepC.mk hK ?_
      clear hx hB ho hf
      (conv => whnf)
      refine hS.litX Tryz.underlying118 (sz := 5) (by kernel_rfl) (z := .agg (encNV noNV).toArray) (by kernel_rfl) rfl rfl (cs := encNV ⟨(N3).id, (N3).cell.li, (N3).role.epoch, false, x, ((N3).tel.picks (N3).tab.cells).length, y⟩) (by rfl) (fun b9 w3 hb9 hx hS => ?_)
      replace hK := hK.trans hx.of_no
      refine KeepC.mk hK ?_
      clear hx
      (conv => whnf)
      refine hS.appX codNote 7 (ys := [⟨(N3).id, (N3).cell.li, (N3).role.epoch, false, x, ((N3).tel.picks (N3).tab.cells).length, y⟩]) (G := fun _ => True) Tryz.underlying118 (bytes := 56) (by kernel_rfl) (z := .agg (encNV noNV).toArray) (by kernel_rfl) rfl rfl (Slc.of_blk codNote (hS.blk 9 rfl) rfl (by simp) (fun _ _ => trivial) rfl) (by unfold maxLen; show 1 + 1 ≤ _; decide) (by show (1 + 1) * 56 ≤ _; decide) (fun a2 c2 w4 hx hS => ?_)
      replace hK := hK.trans (hx.mono fun q h => .inr (.inr h))
      refine KeepC.mk hK ?_
      clear hx hK
      replace hS := hS.keep 9
      repeat' ((conv => whnf); first | refine RetC.mk ?_ | refine NzC.mk (by decide) ?_ | refine RngC.mk (by omega) (by omega) ?_ | refine IdxC.mk (by omega) (by omega) ?_ | refine brD (fun _ => ?_) (fun _ => ?_) | refine brND (fun _ => ?_) (fun _ => ?_) | refine brN (fun _ => ?_) (fun _ => ?_) | refine brI (fun _ => ?_) (fun _ => ?_))
      rw [notes_t hbt]
      replace hS : St w (inF (rnodeH A N R)) w4 (rnodeH A { (N3) with tel := (N3).tel.next (N3).tab.cells } (R') ++ rnoteH a2 c2 x y [⟨(N3).id, (N3).cell.li, (N3).role.epoch, true, []⟩, ⟨(N3).id, (N3).cell.li, (N3).role.epoch, false, outC (N3).tab.cells ((N3).tel.picks (N3).tab.cells)⟩]) := by
        have hc : cellsOfN [⟨(N3).id, (N3).cell.li, (N3).role.epoch, true, []⟩, ⟨(N3).id, (N3).cell.li, (N3).role.epoch, false, outC (N3).tab.cells ((N3).tel.picks (N3).tab.cells)⟩] = outC (N3).tab.cells ((N3).tel.picks (N3).tab.cells) := by simp [cellsOfN]
        have hv : [(⟨(N3).id, (N3).cell.li, (N3).role.epoch, true, []⟩ : NoteS), ⟨(N3).id, (N3).cell.li, (N3).role.epoch, false, outC (N3).tab.cells ((N3).tel.picks (N3).tab.cells)⟩].map (noteV x y) = [⟨(N3).id, (N3).cell.li, (N3).role.epoch, true, none, 0, 0⟩, ⟨(N3).id, (N3).cell.li, (N3).role.epoch, false, x, ((N3).tel.picks (N3).tab.cells).length, y⟩] := by simp [noteV, outC_len]
        unfold rnoteH
        rw [hc, hv, outC_len]
        exact hS
      exact ⟨a2, c2, x, y, (R'), rfl, hA2, hR2, St.turns hS⟩
    · have hbt : (N3).beat = false := by
        unfold NodeS.beat
        rw [decide_eq_false hz, Bool.and_false]
      (conv => whnf)
      (refine drawS tabOk mixed [] No [0, 1, 2, 3, 4, 5, 6, 7, 8, 9, 10, 11, 12, 13, 14, 15, 16, 17, 18, 19, 20, 21, 22] (by kernel_rfl) ?_; rintro w1 rfl; replace hS := hS.drew)
      have hK := hS.ref No
      repeat' ((conv => whnf); first | refine hS.ldF 0 rfl rfl id ?_ | refine hS.ldF 2 rfl rfl id ?_ | refine hS.ldF 1 rfl rfl id ?_)
      refine hS.litX Tryz.underlying118 (sz := 5) (by kernel_rfl) (z := .agg (encNV noNV).toArray) (by kernel_rfl) rfl rfl (cs := encNV ⟨(N3).id, (N3).cell.li, (N3).role.epoch, true, none, 0, 0⟩) (by rfl) (fun b9 w3 hb9 hx hS => ?_)
      replace hK := hK.trans hx
      refine KeepC.mk hK ?_
      clear hx
      (conv => whnf)
      refine hS.appX codNote 7 (ys := [⟨(N3).id, (N3).cell.li, (N3).role.epoch, true, none, 0, 0⟩]) (G := fun _ => True) Tryz.underlying118 (bytes := 56) (by kernel_rfl) (z := .agg (encNV noNV).toArray) (by kernel_rfl) rfl rfl (Slc.of_blk codNote (hS.blk 8 rfl) rfl (by simp) (fun _ _ => trivial) rfl) (by unfold maxLen; decide) (by decide) (fun a1 c1 w4 hx hS => ?_)
      replace hK := hK.trans (hx.mono fun q h => by simp [Value.ownBlock] at h)
      refine KeepC.mk hK ?_
      clear hx hK
      replace hS := hS.keep 8
      (conv => whnf)
      refine brD (fun h => absurd h hz) (fun _ => ?_)
      repeat' ((conv => whnf); first | refine RetC.mk ?_ | refine NzC.mk (by decide) ?_ | refine RngC.mk (by omega) (by omega) ?_ | refine IdxC.mk (by omega) (by omega) ?_ | refine brD (fun _ => ?_) (fun _ => ?_) | refine brND (fun _ => ?_) (fun _ => ?_) | refine brN (fun _ => ?_) (fun _ => ?_) | refine brI (fun _ => ?_) (fun _ => ?_))
      rw [notes_tf hbt]
      exact ⟨a1, c1, none, 0, (R'), rfl, hA2, hR2, St.turns (hS.addNil 135 10 encCell)⟩
end
end Go.Proofs.YtakdekkieobbaaaGreatDoor

/-
  The reference's node, walked: hearing a note, a new node.
-/
namespace Go.Proofs.YtakdekkieobbaaaGreatDoor
open Go Ev
theorem Ev.St.newK {w0 w1 w : World} {S T : Nat → Prop} {H : List Ent} (h : St w0 S w H) (hK : Ext T w1 w) {t : TypeId} {cs : List Value} {k : Value → World → Prop} (hk : ∀ b w', Ext T w1 w' → St w0 S w' (H ++ [Ev.blk b t cs]) → k (.pointer (some ⟨b, 0, none⟩)) w') : NewC w t cs k := by
  obtain ⟨h1⟩ := h.new (t := t) (cs := cs) (k := fun v w' => Ext T w1 w' → k v w') (fun b w' _ hS hx => hk b w' hx hS)
  exact ⟨h1 (hK.trans (Ext.push _ _ _ _))⟩
theorem Ev.St.mergeM {w0 w : World} {S : Nat → Prop} {H : List Ent} {bm g c : Nat} {life : Int} {l : List CellS} (h : St w0 S w (Ev.blk bm 103 [.int .i64 life, .slice (some ⟨g, 0, none⟩) 32 c] :: ownL 135 10 encCell (.slice (some ⟨g, 0, none⟩) 32 c) l :: H)) : St w0 S w (refM bm g c ⟨life, l⟩ :: H) := by
  have hap := List.pairwise_cons.1 h.apart
  have hap2 := List.pairwise_cons.1 hap.2
  have hg : g ∈ (ownL 135 10 encCell (.slice (some ⟨g, 0, none⟩) 32 c) l).foot := by simp [ownL, own, Value.ownBlock]
  have hbm : bm ∈ (Ev.blk bm 103 [.int .i64 life, .slice (some ⟨g, 0, none⟩) 32 c]).foot := List.mem_singleton.2 rfl
  have hne : bm ≠ g := fun e => hap.1 _ List.mem_cons_self bm hbm (e ▸ hg)
  have hmH : ∀ f ∈ H, f ∈ Ev.blk bm 103 [.int .i64 life, .slice (some ⟨g, 0, none⟩) 32 c] :: ownL 135 10 encCell (.slice (some ⟨g, 0, none⟩) 32 c) l :: H := fun f hf => List.mem_cons_of_mem _ (List.mem_cons_of_mem _ hf)
  refine ⟨h.ext, ?_, ?_, ?_, ?_⟩
  · intro e he
    rcases List.mem_cons.1 he with rfl | he
    · exact ⟨hne, h.blk 0 rfl, h.get 1 rfl⟩
    · exact h.each e (hmH e he)
  · intro e he
    rcases List.mem_cons.1 he with rfl | he
    · exact refM_local
    · exact h.loc e (hmH e he)
  · intro e he b hb
    rcases List.mem_cons.1 he with rfl | he
    · simp only [refM, List.mem_cons, List.not_mem_nil, or_false] at hb
      rcases hb with rfl | rfl
      · exact h.may _ List.mem_cons_self _ hbm
      · exact h.may _ (List.mem_cons_of_mem _ List.mem_cons_self) _ hg
    · exact h.may e (hmH e he) b hb
  · refine .cons (fun f hf b hb => ?_) hap2.2
    simp only [refM, List.mem_cons, List.not_mem_nil, or_false] at hb
    rcases hb with rfl | rfl
    · exact hap.1 f (List.mem_cons_of_mem _ hf) _ hbm
    · exact hap2.1 f hf _ hg
section
variable {w : World} {A : RNodeA} {N : NodeS} {R : RBy} {B : BytS}
theorem rhear_ok {m : Nat} {G : CellS → Prop} (x : NoteV) (cs : List CellS) (hx : Slc w 10 encCell G x.a x.n cs) (hsrc : 0 < x.n → ∀ b0 o0, x.a = some ⟨b0, o0, none⟩ → ¬ inF (rnodeH A N R) b0) (hN : Has w (rnodeH A N R)) (hO : NOk m N) :
    CallC Tryz.prog 46 #[.pointer (some ⟨A.n, 0, none⟩), .agg (encNV x).toArray] w fun v w' => v = .int .i64 ((N.hear ⟨x.fro, x.life, x.epoch, x.claim, cs⟩).1 : Nat) ∧ ∃ g' c', Turns w w' (rnodeH A N R) (rnodeH { A with mg := g', mc := c' } (N.hear ⟨x.fro, x.life, x.epoch, x.claim, cs⟩).2 R) := by
  have hid := hO.id
  refine fn_intro tabOk Tryz.func46 (by kernel_rfl) rfl Tryz.ntmps46 (Nat.le_of_ble_eq_true rfl) ?_
  have hS := hN.start
  (conv => whnf)
  refine hS.new (fun bx w' hbx hS => ?_)
  replace hS : St w (inF (rnodeH A N R)) w' (rnodeH A N R ++ [blk bx 53 (encNV x)]) := hS
  (conv => whnf)
  (refine drawS tabOk mixed [] No [0, 1, 2, 3, 4, 5, 6, 7, 8, 9, 10, 11, 12, 13, 14, 15, 16, 17] (by kernel_rfl) ?_; rintro w1 rfl; replace hS := hS.drew)
  repeat' ((conv => whnf); first | refine hS.ldF 7 rfl rfl id ?_ | refine hS.ldF 0 rfl rfl id ?_ | refine RngC.mk (by omega) (by omega) ?_)
  generalize hxs : (⟨x.fro, x.life, x.epoch, x.claim, cs⟩ : NoteS) = xs
  have hcond : (x.fro ≠ 1 - N.id ∨ x.epoch < 0 ∨ x.epoch > 1073741824) → N.hear xs = (2, N) := fun h => by
    subst hxs
    exact if_pos h
  (conv => whnf)
  refine brND (fun h1 => ?_) (fun h1 => ?_)
  · rw [hcond (.inl h1)]
    repeat' ((conv => whnf); first | refine RetC.mk ?_ | refine NzC.mk (by decide) ?_ | refine RngC.mk (by omega) (by omega) ?_ | refine IdxC.mk (by omega) (by omega) ?_ | refine brD (fun _ => ?_) (fun _ => ?_) | refine brND (fun _ => ?_) (fun _ => ?_) | refine brN (fun _ => ?_) (fun _ => ?_) | refine brI (fun _ => ?_) (fun _ => ?_))
    exact ⟨rfl, A.mg, A.mc, (hS.keep 7).turns⟩
  (conv => whnf)
  refine hS.ldF 7 rfl rfl id ?_
  (conv => whnf)
  refine brD (fun h2 => ?_) (fun h2 => ?_)
  · rw [hcond (.inr (.inl h2))]
    repeat' ((conv => whnf); first | refine RetC.mk ?_ | refine NzC.mk (by decide) ?_ | refine RngC.mk (by omega) (by omega) ?_ | refine IdxC.mk (by omega) (by omega) ?_ | refine brD (fun _ => ?_) (fun _ => ?_) | refine brND (fun _ => ?_) (fun _ => ?_) | refine brN (fun _ => ?_) (fun _ => ?_) | refine brI (fun _ => ?_) (fun _ => ?_))
    exact ⟨rfl, A.mg, A.mc, (hS.keep 7).turns⟩
  (conv => whnf)
  refine hS.ldF 7 rfl rfl id ?_
  (conv => whnf)
  refine brD (fun h3 => ?_) (fun h3 => ?_)
  · rw [hcond (.inr (.inr h3))]
    repeat' ((conv => whnf); first | refine RetC.mk ?_ | refine NzC.mk (by decide) ?_ | refine RngC.mk (by omega) (by omega) ?_ | refine IdxC.mk (by omega) (by omega) ?_ | refine brD (fun _ => ?_) (fun _ => ?_) | refine brND (fun _ => ?_) (fun _ => ?_) | refine brN (fun _ => ?_) (fun _ => ?_) | refine brI (fun _ => ?_) (fun _ => ?_))
    exact ⟨rfl, A.mg, A.mc, (hS.keep 7).turns⟩
  (conv => whnf)
  refine hS.ld 7 rfl rfl ?_
  cases hcl : x.claim
  case true =>
    rw [show N.hear xs = (3, N) by subst hxs; unfold NodeS.hear; rw [if_neg (by dsimp only; omega), if_pos hcl]]
    repeat' ((conv => whnf); first | refine RetC.mk ?_ | refine NzC.mk (by decide) ?_ | refine RngC.mk (by omega) (by omega) ?_ | refine IdxC.mk (by omega) (by omega) ?_ | refine brD (fun _ => ?_) (fun _ => ?_) | refine brND (fun _ => ?_) (fun _ => ?_) | refine brN (fun _ => ?_) (fun _ => ?_) | refine brI (fun _ => ?_) (fun _ => ?_))
    exact ⟨rfl, A.mg, A.mc, (hS.keep 7).turns⟩
  have hh : N.hear xs = if (N.mir.tell x.life cs).1 ≠ 0 then ((N.mir.tell x.life cs).1, { N with mir := (N.mir.tell x.life cs).2 }) else (0, { N with mir := (N.mir.tell x.life cs).2, role := (N.role.hear x.epoch).2 }) := by
    subst hxs
    unfold NodeS.hear
    rw [if_neg (by dsimp only; omega), if_neg (by show ¬ x.claim = true; rw [hcl]; decide)]
  have hn5 := St.neF hS 0 5 rfl rfl (by decide) (c := A.m) (by simp [refM])
  have hn6 := St.neF hS 0 5 rfl rfl (by decide) (c := A.mg) (by simp [refM])
  have hn7 := St.neF hS 7 5 rfl rfl (by decide) (c := A.m) (by simp [refM])
  have hn8 := St.neF hS 7 5 rfl rfl (by decide) (c := A.mg) (by simp [refM])
  (conv => whnf)
  (refine drawS tabOk mixed [] (fun b => b = A.m ∨ b = A.mg) [0, 1, 2, 3, 4, 5, 6, 7, 8, 9] (by kernel_rfl) ?_; rintro w1 rfl; replace hS := hS.drew)
  repeat' ((conv => whnf); first | refine hS.ldF 0 rfl rfl (fun h => h.elim hn5 hn6) ?_ | refine hS.ldF 7 rfl rfl (fun h => h.elim hn7 hn8) ?_)
  have hinm : ∀ d, d = A.m ∨ d = A.mg → inF (rnodeH A N R) d := fun d hd => ⟨_, List.mem_of_getElem? (i := 5) rfl, by simpa [refM] using hd⟩
  refine (refTell_ok x.life (hS.get 5 rfl) hO.mir (hx.extN hS.ext hsrc) (fun h b0 o0 ha => ⟨fun e => hsrc h b0 o0 ha (hinm _ (.inl e)), fun e => hsrc h b0 o0 ha (hinm _ (.inr e))⟩)).mono ?_
  rintro v w' ⟨g', c', rfl, hx', hM, hg'⟩
  refine KeepC.mk hx' ?_
  replace hS := hS.upd 5 rfl hx' (fun d hd => by simpa [refM] using hd) refM_local hM (by
    intro d hd
    simp only [refM, List.mem_cons, List.not_mem_nil, or_false] at hd ⊢
    rcases hd with rfl | rfl
    · exact .inl (.inl rfl)
    · rcases hg' with rfl | h
      · exact .inl (.inr rfl)
      · exact .inr h)
  rw [hh]
  clear hh hcond hxs hM hx' hg' hn5 hn6 hn7 hn8 hinm hsrc hx
  generalize N.mir.tell x.life cs = Q at hS ⊢
  obtain ⟨k, M⟩ := Q
  replace hS : St w (inF (rnodeH A N R)) w' (rnodeH { A with mg := g', mc := c' } { N with mir := M } R ++ [blk bx 53 (encNV x)]) := hS
  by_cases hk : k = 0
  case neg =>
    rw [if_pos (show ((k, M) : Nat × MirS).1 ≠ 0 from hk)]
    (conv => whnf)
    refine brD (fun h => absurd (show k = 0 by omega) hk) (fun _ => ?_)
    repeat' ((conv => whnf); first | refine RetC.mk ?_ | refine NzC.mk (by decide) ?_ | refine RngC.mk (by omega) (by omega) ?_ | refine IdxC.mk (by omega) (by omega) ?_ | refine brD (fun _ => ?_) (fun _ => ?_) | refine brND (fun _ => ?_) (fun _ => ?_) | refine brN (fun _ => ?_) (fun _ => ?_) | refine brI (fun _ => ?_) (fun _ => ?_))
    exact ⟨rfl, g', c', (hS.keep 7).turns⟩
  subst hk
  rw [if_neg (show ¬ ((0, M) : Nat × MirS).1 ≠ 0 by simp)]
  have hn1 := hS.ne 0 1 rfl rfl (by decide)
  have hn8 := hS.ne 7 1 rfl rfl (by decide)
  (conv => whnf)
  (refine drawS tabOk mixed [] (fun b => b = A.r) [0, 1, 2, 3, 4, 5, 6] (by kernel_rfl) ?_; rintro w1 rfl; replace hS := hS.drew)
  repeat' ((conv => whnf); first | refine hS.ldF 0 rfl rfl hn1 ?_ | refine hS.ldF 7 rfl rfl hn8 ?_)
  refine (ref_hear x.epoch (hS.blk 1 rfl)).mono ?_
  rintro v w' ⟨rfl, hx', hB⟩
  refine KeepC.mk hx' ?_
  replace hS := hS.upd 1 rfl hx' (fun c hc => by subst hc; exact List.mem_singleton.2 rfl) (blk_local _ _ _) hB (fun c hc => .inl hc)
  repeat' ((conv => whnf); first | refine RetC.mk ?_ | refine NzC.mk (by decide) ?_ | refine RngC.mk (by omega) (by omega) ?_ | refine IdxC.mk (by omega) (by omega) ?_ | refine brD (fun _ => ?_) (fun _ => ?_) | refine brND (fun _ => ?_) (fun _ => ?_) | refine brN (fun _ => ?_) (fun _ => ?_) | refine brI (fun _ => ?_) (fun _ => ?_))
  exact ⟨rfl, g', c', (hS.keep 7).turns⟩
theorem nput_same (C : CelS) (B : BytS) (l : Int) : (C.put B C.ep l).2.2.ep = C.ep := by
  unfold CelS.put
  repeat' split
  all_goals dsimp only
  all_goals simp
theorem rnew_ok {k b : Nat} {a : Option Addr} {c : Nat} {xs : List RuleS} (id : Int) (hid : id = 0 ∨ id = 1) (hb : Blk w b 42 (encRB R)) (hA : Alike R B) (hB : BOk B) (hR : ROk R k) (hk : k ≤ 50000000) :
    CallC Tryz.prog 13 #[.int .i64 id, .pointer (some ⟨b, 0, none⟩), .slice a xs.length c] w fun v w' => ∃ R', Alike R' (newN id B xs).2.2 ∧ ROk R' (k + 18) ∧
      (((newN id B xs).1 = 0 ∧ ∃ A : RNodeA, A.b = b ∧ A.ra = a ∧ A.rc = c ∧ v = .tuple #[.pointer (some ⟨A.n, 0, none⟩), .int .i64 0] ∧ Turns w w' [blk b 42 (encRB R)] (rnodeH A (newN id B xs).2.1 R')) ∨
      ((newN id B xs).1 ≠ 0 ∧ v = .tuple #[.pointer none, .int .i64 ((newN id B xs).1 : Nat)] ∧ Ext (· = b) w w' ∧ Blk w' b 42 (encRB R'))) := by
  have hH : Has w [blk b 42 (encRB R)] := ((St.start w (· = b)).add (blk_local b _ _) hb (by simp [blk]; exact hb.lt) (by simp)).has
  have hin : ∀ d, inF [blk b 42 (encRB R)] d → d = b := fun d ⟨e, he, hd⟩ => by
    obtain rfl := List.mem_singleton.1 he
    exact List.mem_singleton.1 hd
  have hS := hH.start
  clear hb
  refine fn_intro tabOk Tryz.func13 (by kernel_rfl) rfl Tryz.ntmps13 (Nat.le_of_ble_eq_true rfl) ?_
  (conv => whnf)
  refine (ropen_ok (hS.blk 0 rfl) hR.len).mono ?_
  rintro v w3 ⟨bc, rfl, hbc, hx', hB1⟩
  replace hS := hS.made hx' (blk_local _ _ _) hB1 (by simp [blk]; exact ⟨hbc, hB1.lt⟩)
  clear hx' hB1
  have hlt := openN_lt R.data 2
  have hnew : newN id B xs = (((openS R.data).put B (openS R.data).ep ((openS R.data).li + 1)).1, .born id ((openS R.data).put B (openS R.data).ep ((openS R.data).li + 1)).2.2 xs, ((openS R.data).put B (openS R.data).ep ((openS R.data).li + 1)).2.1) := by rw [hA.data]; rfl
  rw [hnew]
  generalize hC : openS R.data = C at hS ⊢
  have hlt : C.num < 4294967296 ∧ C.ep < 4294967296 ∧ C.li < 4294967296 := by rw [← hC]; exact hlt
  clear hnew hC
  (conv => whnf)
  refine drawI tabOk mixed [8] (fun w1 w' => Ext (fun d => d = b ∨ d = bc) w1 w' ∧ ∃ C' : CelS, C'.ep = C.ep ∧ Blk w' bc 94 (encCl b C')) [0, 1, 2, 3, 4, 5, 6, 7, 8, 9, 10, 11] (by kernel_rfl) ?_
  rintro w1 rfl
  replace hS := hS.drew
  refine ⟨⟨Ext.refl _ _, C, rfl, hS.blk 1 rfl⟩, ?_⟩
  have hK := hS.ref (fun d => d = b ∨ d = bc)
  (conv => whnf)
  refine ⟨.int .i64 C.ep, fun w' h => by obtain ⟨_, C', h1, h2⟩ := h; rw [h2.cell, ← h1]; rfl, ?_⟩
  (conv => whnf)
  refine hS.ld 1 rfl rfl ?_
  refine KeepC.mk ⟨hK, C, rfl, hS.blk 1 rfl⟩ ?_
  (conv => whnf)
  refine RngC.mk (by omega) (by omega) ?_
  (conv => whnf)
  refine (rcput_ok C.ep (C.li + 1) (hS.blk 1 rfl) (hS.blk 0 rfl) hA hB hR hk hlt.1).mono ?_
  rintro v w6 ⟨rfl, hx', R', hA', hR', hB1, hC1⟩
  have hep := nput_ep0 C B C.ep (C.li + 1)
  refine KeepC.mk ⟨hK.trans hx', _, nput_same _ _ _, hC1⟩ ?_
  have hS2 := Ev.St.upd2 hS hx' (by simp [blk]) (blk_local _ _ _) hB1 rfl (blk_local _ _ _) hC1 rfl
  clear hS hB1 hC1 hx' hK
  generalize C.put B C.ep (C.li + 1) = Q at hS2 hep hA' ⊢
  obtain ⟨e, B2, C2⟩ := Q
  have hS : St w (inF [blk b 42 (encRB R)]) w6 [blk b 42 (encRB R'), blk bc 94 (encCl b C2)] := hS2
  clear hS2
  dsimp only at hep hA' ⊢
  by_cases he : e = 0
  case neg =>
    (conv => whnf)
    refine brD (fun _ => ?_) (fun h => absurd (show (e : Int) > 0 by omega) h)
    repeat' ((conv => whnf); first | refine RetC.mk ?_ | refine NzC.mk (by decide) ?_ | refine RngC.mk (by omega) (by omega) ?_ | refine IdxC.mk (by omega) (by omega) ?_ | refine brD (fun _ => ?_) (fun _ => ?_) | refine brND (fun _ => ?_) (fun _ => ?_) | refine brN (fun _ => ?_) (fun _ => ?_) | refine brI (fun _ => ?_) (fun _ => ?_))
    exact ⟨R', hA', hR', .inr ⟨he, rfl, hS.ext.mono hin, hS.blk 0 rfl⟩⟩
  subst he
  obtain ⟨he, _⟩ := hep rfl
  (conv => whnf)
  refine DrawC.cut (fun σ w' => ∃ br bt tg tc bm mg mc bn, σ = [(10, .pointer (some ⟨bn, 0, none⟩))] ∧ St w (inF [blk b 42 (encRB R)]) w' [refM bm mg mc ⟨0, emptyCells⟩, blk b 42 (encRB R'), blk bc 94 (encCl b C2), blk br 97 (encRole ⟨id, C2.ep, 0, false⟩), refT bt tg tc ⟨2000 + id * 24, emptyCells⟩, blk bn 106 [.int .i64 id, .int .i64 0, .pointer (some ⟨bc, 0, none⟩), .pointer (some ⟨br, 0, none⟩), .pointer (some ⟨bt, 0, none⟩), .pointer none, .pointer (some ⟨bm, 0, none⟩), .slice a xs.length c]]) ?_ ?_
  · refine drawT tabOk mixed [] (No) (.take 0 (.take 1 (.take 2 (.take 3 (.take 4 (.take 5 (.take 6 (.take 7 (.take 9 (.take 14 (.alt 8 (.alt 10 (.alt 11 (.take 12 (.alt 13 (.take 15 (.alt 16 (.take 17 .fin) .fin)) .fin)) .fin) .fin) (.alt 10 (.alt 8 (.alt 11 (.take 12 (.alt 13 (.take 15 (.alt 16 (.take 17 .fin) .fin)) .fin)) .fin) (.alt 11 (.take 12 (.alt 8 (.alt 13 (.take 15 (.alt 16 (.take 17 .fin) .fin)) .fin) (.alt 13 (.alt 8 (.take 15 (.alt 16 (.take 17 .fin) .fin)) .fin) .fin))) .fin)) .fin)))))))))))) (by kernel_rfl) ?_
    rintro w1 rfl
    replace hS := hS.drew
    have hK := hS.ref No
    repeat' ((conv => whnf); first | refine And.intro ?_ ?_ | refine hS.ldF 1 rfl rfl (fun h => h) ?_ | (refine hS.newK hK (fun bw w' hK hS => KeepC.mk hK ?_)) | (refine (newTable_ok id hid _).mono ?_; rintro v w' ⟨bt, tg, tc, rfl, hx', hT, hf⟩; replace hS := hS.made hx' refT_local hT hf; replace hK := hK.trans hx'; clear hx' hT hf; refine KeepC.mk hK ?_) | (refine (empty_ok _).mono ?_; rintro v w' ⟨mg, mc, rfl, hx', ho, hf⟩; replace hS := hS.made hx' ownL_local ho (fun g hg => hf g (by simpa [ownL, own] using hg)); replace hK := hK.trans hx'; clear hx' ho hf; refine KeepC.mk hK ?_))
    all_goals first
      | exact CutE.mk ⟨[(10, _)], ⟨rfl, trivial⟩, _, _, _, _, _, _, _, _, rfl, (hS.sel [5, 4, 0, 1, 2, 3, 6] (by decide)).mergeM⟩
      | exact CutE.mk ⟨[(10, _)], ⟨rfl, trivial⟩, _, _, _, _, _, _, _, _, rfl, (hS.sel [5, 4, 0, 1, 3, 2, 6] (by decide)).mergeM⟩
      | exact CutE.mk ⟨[(10, _)], ⟨rfl, trivial⟩, _, _, _, _, _, _, _, _, rfl, (hS.sel [5, 3, 0, 1, 4, 2, 6] (by decide)).mergeM⟩
      | exact CutE.mk ⟨[(10, _)], ⟨rfl, trivial⟩, _, _, _, _, _, _, _, _, rfl, (hS.sel [4, 3, 0, 1, 5, 2, 6] (by decide)).mergeM⟩
      | trace_state
  clear hS
  rintro _ w7 ⟨br, bt, tg, tc, bm, mg, mc, bn, rfl, hS⟩
  (conv => whnf)
  refine hS.ld 5 rfl rfl ?_
  (conv => whnf)
  refine (rlNew_ok _).mono ?_
  rintro v w8 ⟨bx, xg, xc, rfl, hx', hL, hf⟩
  replace hS := hS.made hx' refL_local hL hf
  (conv => whnf)
  refine hS.st 5 rfl (Nat.le_of_ble_eq_true rfl) rfl (fun w' hS => ?_)
  have hS2 := hS.sel [5, 3, 2, 4, 6, 0, 1] (by decide)
  repeat' ((conv => whnf); first | refine RetC.mk ?_ | refine NzC.mk (by decide) ?_ | refine RngC.mk (by omega) (by omega) ?_ | refine IdxC.mk (by omega) (by omega) ?_ | refine brD (fun _ => ?_) (fun _ => ?_) | refine brND (fun _ => ?_) (fun _ => ?_) | refine brN (fun _ => ?_) (fun _ => ?_) | refine brI (fun _ => ?_) (fun _ => ?_))
  exact ⟨R', hA', hR', .inl ⟨rfl, ⟨bn, br, bc, bt, tg, tc, bx, xg, xc, bm, mg, mc, b, a, c⟩, rfl, rfl, rfl, rfl, St.turns hS2⟩⟩
end
end Go.Proofs.YtakdekkieobbaaaGreatDoor

/-
  What the laws about nodes share: a closed fact, notes, how a node and its reference stand.
-/
namespace Go.Proofs.YtakdekkieobbaaaGreatDoor
open Go Ev
section
variable {w : World}
theorem faulted2_ok {E : Nat → Addr} {n k : Nat} {a : Int} {w0 : World} {v : Value} (h : FaultV E w0 w v k a) (h0 : k = 0 → a = -1) (hk : k < 12) (hE : Errs w E n allErrs) (hh : Handle w) :
    CallC Tryz.prog 12 #[v, .agg (encF k a).toArray] w fun v w' => v = .bool true ∧ Ext No w w' := by
  refine fn_intro tabOk Tryz.func12 (by kernel_rfl) rfl Tryz.ntmps12 (Nat.le_of_ble_eq_true rfl) ?_
  have hS := St.start w No
  (conv => whnf)
  refine hS.new (fun bf w' hbf hS => ?_)
  replace hS : St w No w' [blk bf 37 (encF k a)] := hS
  (conv => whnf)
  refine (codeV_ok (h.no hS.ext) hk (hE.ext hS.ext fun _ h => h.elim) (hh.ext hS.ext)).mono ?_
  rintro v w2 ⟨rfl, hx⟩
  replace hS := hS.no hx
  repeat' ((conv => whnf); first | refine RetC.mk ?_ | refine NzC.mk (by decide) ?_ | refine RngC.mk (by omega) (by omega) ?_ | refine IdxC.mk (by omega) (by omega) ?_ | refine hS.ld 0 rfl rfl ?_ | refine hS.laX 0 rfl rfl ?_ | refine brD (fun _ => ?_) (fun _ => ?_) | refine brND (fun _ => ?_) (fun _ => ?_) | refine brN (fun _ => ?_) (fun _ => ?_) | refine brI (fun _ => ?_) (fun _ => ?_))
  all_goals first | exact ⟨rfl, hS.ext⟩ | (exfalso; rename_i h; exact h rfl) | exact ⟨by simp, hS.ext⟩

/-! ### A closed fact -/
def wN : Nat → NodeS × BytS
  | 0 => (newN 1 by0 []).2
  | k + 1 => ((wN k).1.tick (wN k).2).2.2
theorem wN_law : (newN 1 by0 []).1 = 0 ∧ (wN 0).1.cell.li = 1 ∧ (wN 0).1.role.active = false ∧ (∀ k, k < 10 → ((wN k).1.tick (wN k).2).1 = 0) ∧ (wN 10).1.role.active = true ∧ (wN 10).1.role.epoch = 1 ∧ (wN 10).1.now = 10 := by decide +kernel
theorem by0_bok : BOk by0 := ⟨by simp [by0], by decide, by decide⟩
theorem wN_ok : ∀ k, k ≤ 10 → NOk (34 * k) (wN k).1 ∧ BOk (wN k).2
  | 0, _ => ⟨(newN_ok (.inr rfl) by0_bok rfl).2 wN_law.1, (newN_ok (.inr rfl) by0_bok rfl).1⟩
  | k + 1, h => by
    obtain ⟨h1, h2⟩ := wN_ok k (by omega)
    exact ⟨(h1.tick (by omega) _).mono (by omega), NodeS.tick_bok h2⟩
theorem slc_nil {α : Type} (w : World) (sz : Nat) (enc : α → List Value) (G : α → Prop) (a : Option Addr) : Slc w sz enc G a 0 [] := ⟨rfl, by decide, fun k x hk => by simp at hk, fun x hx => by simp at hx⟩
theorem wakes_ok {E : Nat → Addr} {q : Nat} (w : World) (hE : Errs w E q allErrs) (hq : q ≤ w.heap.size) : CallC Tryz.prog 4 #[] w fun v w' => v = .bool true ∧ Ext No w w' := by
  obtain ⟨h0, h1, h2, h3, h4, h5, h6⟩ := wN_law
  refine fn_intro tabOk Tryz.func4 (by kernel_rfl) rfl Tryz.ntmps4 (Nat.le_of_ble_eq_true rfl) ?_
  have hS := St.start w No
  (conv => whnf)
  refine (newBytes_ok _).mono ?_
  rintro v w' ⟨b, rfl, hb, hx', hB⟩
  replace hS := hS.made hx' (blk_local _ _ _) hB (by simp [blk]; exact ⟨hb, hB.lt⟩)
  have fb := hS.fresh 0 rfl
  clear hx' hB hb
  (conv => whnf)
  refine (nnew_ok (G := fun _ => True) 1 (.inr rfl) (slc_nil _ 5 encRule _ none) (by decide) rfl (fun h => absurd h (by decide)) (hS.blk 0 rfl) by0_bok rfl (hE.ext hS.ext fun _ h => h.elim) (Nat.le_trans hq fb)).mono ?_
  rintro v w' (⟨_, A, hAb, rfl, ht⟩ | ⟨hne, _⟩)
  case inr => exact absurd h0 hne
  replace hS := hS.turned ht
  clear ht
  replace hS : St w No w' (nodeB A (wN 0).1 (wN 0).2) := hS
  (conv => whnf)
  refine (nlife_ok hS.has.left).mono ?_
  rintro v w' ⟨rfl, hx'⟩
  replace hS := hS.no hx'
  clear hx'
  rw [h1]
  (conv => whnf)
  refine hS.ld 0 rfl rfl ?_
  (conv => whnf)
  refine (role_active (hS.blk 1 rfl)).mono ?_
  rintro v w' ⟨rfl, rfl⟩
  rw [h2]
  (conv => whnf)
  refine loopR tabOk (fun σ w' q => ∃ k : Nat, σ = [(4, .int .i64 k), (2, .pointer (some ⟨A.n, 0, none⟩))] ∧ q = 10 - k ∧ k ≤ 10 ∧ St w No w' (nodeB A (wN k).1 (wN k).2))
    (σ' := [(4, .int .i64 ((0 : Nat) : Int)), (2, .pointer (some ⟨A.n, 0, none⟩))]) (n := 10) ⟨rfl, rfl, trivial⟩ ⟨0, rfl, rfl, Nat.zero_le _, hS⟩ ?_
  clear hS
  rintro _ w1 q' ⟨k, rfl, rfl, hk, hS⟩
  obtain ⟨hO, hB⟩ := wN_ok k hk
  (conv => whnf)
  refine brD (fun h7 => ?_) (fun h7 => ?_)
  · (conv => whnf)
    refine (ntick_ok hS.has hO hB (by omega) (hE.ext hS.ext fun _ h => h.elim) (hS.high (fun _ h => h.elim) hq)).mono ?_
    rintro v w' ⟨a, c, x, y, rfl, ht⟩
    replace hS := (hS.turned ht).keep 8
    replace hS : St w No w' (nodeB A (wN (k + 1)).1 (wN (k + 1)).2) := hS
    rw [h3 k (by omega)]
    (conv => whnf)
    refine RngC.mk (by omega) (by omega) ?_
    (conv => whnf)
    refine LoopE.mk ⟨_, [(4, .int .i64 ((k + 1 : Nat) : Int)), (2, _)], ?_, ⟨rfl, rfl, trivial⟩, ⟨k + 1, rfl, rfl, by omega, hS⟩⟩
    omega
  · obtain rfl : k = 10 := by omega
    (conv => whnf)
    refine hS.ld 0 rfl rfl ?_
    (conv => whnf)
    refine (role_active (hS.blk 1 rfl)).mono ?_
    rintro v w' ⟨rfl, rfl⟩
    rw [h4]
    (conv => whnf)
    refine hS.ld 0 rfl rfl ?_
    (conv => whnf)
    refine (role_epoch (hS.blk 1 rfl)).mono ?_
    rintro v w' ⟨rfl, rfl⟩
    rw [h5]
    (conv => whnf)
    refine (nnow_ok hS.has.left).mono ?_
    rintro v w' ⟨rfl, rfl⟩
    rw [h6]
    repeat' ((conv => whnf); first | refine RetC.mk ?_ | refine NzC.mk (by decide) ?_ | refine RngC.mk (by omega) (by omega) ?_ | refine IdxC.mk (by omega) (by omega) ?_ | refine brD (fun _ => ?_) (fun _ => ?_) | refine brND (fun _ => ?_) (fun _ => ?_) | refine brN (fun _ => ?_) (fun _ => ?_) | refine brI (fun _ => ?_) (fun _ => ?_))
    exact ⟨rfl, hS.ext⟩

/-! ### Notes, from one to the other -/
theorem backNotes_ok {G : NoteV → Prop} {a : Option Addr} {n c : Nat} {xs : List NoteV} (hx : Slc w 5 encNV G a n xs) (hn : n ≤ 1000) :
    CallC Tryz.prog 52 #[.slice a n c] w fun v w' => ∃ a' c', v = .slice a' n c' ∧ Ext No w w' ∧ (ownL 53 5 encNV v xs).holds w' ∧ Fresh w w' v := by
  have hl := hx.len
  refine fn_intro tabOk Tryz.func52 (by kernel_rfl) rfl Tryz.ntmps52 (Nat.le_of_ble_eq_true rfl) ?_
  have hS := (St.start w No).addNil 53 5 encNV
  (conv => whnf)
  refine loopR tabOk (fun σ w' q => ∃ (k : Nat) (a' : Option Addr) (c' : Nat), σ = [(4, .int .i64 k), (3, .slice a' k c'), (0, .slice a n c)] ∧ q = n - k ∧ k ≤ n ∧ St w No w' [ownL 53 5 encNV (.slice a' k c') (xs.take k)])
    (σ' := [(4, .int .i64 ((0 : Nat) : Int)), (3, .slice none 0 0), (0, .slice a n c)]) (n := n) ⟨rfl, rfl, rfl, trivial⟩ ⟨0, none, 0, rfl, rfl, Nat.zero_le _, hS⟩ ?_
  clear hS
  rintro _ w1 q ⟨k, a', c', rfl, rfl, hk, hS⟩
  (conv => whnf)
  refine brD (fun h3 => ?_) (fun h3 => ?_)
  · obtain ⟨b0, o0, x, hxk, _, rfl, hb0, hc⟩ := hx.at (k := k) (by omega)
    have hT : ¬ w.heap.size ≤ b0 := Nat.not_le.2 hb0
    have hlk : (xs.take k).length = k := by rw [List.length_take]; omega
    have hst : xs.take (k + 1) = xs.take k ++ [x] := by rw [List.take_add_one, hxk]; rfl
    (conv => whnf)
    (refine drawS tabOk mixed [] (fun b => w.heap.size ≤ b) [0, 1, 2, 3, 4, 5, 6, 7, 8, 9, 10, 11, 12, 13, 14, 15, 16, 17, 18, 19, 20, 21, 22, 23, 24, 25, 26, 27, 28, 29] (by kernel_rfl) ?_; rintro w1 rfl; replace hS := hS.drew)
    have hK := hS.ref (fun b => w.heap.size ≤ b)
    repeat' ((conv => whnf); first | refine IdxC.mk (by omega) (by omega) ?_ | refine hS.ldrF (hc.one 0 rfl) id hT ?_ | refine hS.ldrF (hc.one 1 rfl) id hT ?_ | refine hS.ldrF (hc.one 2 rfl) id hT ?_ | refine hS.ldrF (hc.one 3 rfl) id hT ?_ | refine hS.ldrF (hc.one 4 rfl) id hT ?_)
    refine hS.litX Tryz.underlying118 (sz := 5) (by kernel_rfl) (z := .agg (encNV noNV).toArray) (by kernel_rfl) rfl rfl (cs := encNV x) (by rfl) (fun b9 w3 hb9 hx3 hS => ?_)
    replace hK := hK.trans hx3.of_no
    refine KeepC.mk hK ?_
    clear hx3
    have hfr := hS.freshAt 0 rfl
    (conv => whnf)
    refine hS.appX codNote 0 (ys := [x]) (G := fun _ => True) Tryz.underlying118 (bytes := 56) (by kernel_rfl) (z := .agg (encNV noNV).toArray) (by kernel_rfl) rfl rfl (Slc.of_blk codNote (hS.blk 1 rfl) rfl (by simp) (fun _ _ => trivial) rfl) (by rw [hlk]; unfold maxLen; omega) (by rw [hlk]; omega) (fun a2 c2 w4 hx4 hS => ?_)
    replace hK := hK.trans (hx4.mono fun q h => (hfr q h).1)
    refine KeepC.mk hK ?_
    clear hx4 hK hfr
    rw [hlk] at hS ⊢
    replace hS := hS.keep 1
    replace hS : St w No w4 [ownL 53 5 encNV (.slice a2 (k + 1) c2) (xs.take (k + 1))] := by rw [hst]; exact hS
    (conv => whnf)
    refine RngC.mk (by omega) (by omega) ?_
    (conv => whnf)
    refine LoopE.mk ⟨_, [(4, .int .i64 ((k + 1 : Nat) : Int)), (3, _), (0, _)], ?_, ⟨rfl, rfl, rfl, trivial⟩, ⟨k + 1, a2, c2, rfl, rfl, by omega, hS⟩⟩
    omega
  · obtain rfl : k = n := by omega
    rw [List.take_of_length_le (by omega)] at hS
    repeat' ((conv => whnf); first | refine RetC.mk ?_ | refine NzC.mk (by decide) ?_ | refine RngC.mk (by omega) (by omega) ?_ | refine IdxC.mk (by omega) (by omega) ?_ | refine brD (fun _ => ?_) (fun _ => ?_) | refine brND (fun _ => ?_) (fun _ => ?_) | refine brN (fun _ => ?_) (fun _ => ?_) | refine brI (fun _ => ?_) (fun _ => ?_))
    exact ⟨a', c', rfl, hS.ext, hS.get 0 rfl, hS.freshAt 0 rfl⟩
/-- Two rows of notes that say the same. -/
def SameN (w : World) (xs ys : List NoteV) : Prop := ∀ (k : Nat) (x y : NoteV), xs[k]? = some x → ys[k]? = some y → x.fro = y.fro ∧ x.life = y.life ∧ x.epoch = y.epoch ∧ x.claim = y.claim ∧ ∃ cs, Slc w 10 encCell (fun _ => True) x.a x.n cs ∧ Slc w 10 encCell (fun _ => True) y.a y.n cs
theorem sameNotes_ok {G : NoteV → Prop} {a b : Option Addr} {n c d : Nat} {xs ys : List NoteV} (hx : Slc w 5 encNV G a n xs) (hy : Slc w 5 encNV G b n ys) (hs : SameN w xs ys) :
    CallC Tryz.prog 51 #[.slice a n c, .slice b n d] w fun v w' => v = .bool true ∧ Ext No w w' := by
  have hmax := hx.max
  refine fn_intro tabOk Tryz.func51 (by kernel_rfl) rfl Tryz.ntmps51 (Nat.le_of_ble_eq_true rfl) ?_
  have hS := St.start w No
  (conv => whnf)
  refine brND (fun h => absurd rfl h) (fun _ => ?_)
  (conv => whnf)
  refine loopR tabOk (fun σ w' q => ∃ k : Nat, σ = [(5, .int .i64 k), (1, .slice b n d), (0, .slice a n c)] ∧ q = n - k ∧ k ≤ n ∧ St w No w' [])
    (σ' := [(5, .int .i64 ((0 : Nat) : Int)), (1, .slice b n d), (0, .slice a n c)]) (n := n) ⟨rfl, rfl, rfl, trivial⟩ ⟨0, rfl, rfl, Nat.zero_le _, hS⟩ ?_
  clear hS
  rintro _ w1 q ⟨k, rfl, rfl, hk, hS⟩
  (conv => whnf)
  refine brD (fun h3 => ?_) (fun h3 => ?_)
  · obtain ⟨b0, o0, ⟨f1, l1, e1, cl1, xa, xn, xc⟩, hxk, _, rfl, _, hc⟩ := hx.at (k := k) (by omega)
    obtain ⟨b1, o1, ⟨f2, l2, e2, cl2, ya, yn, yc⟩, hyk, _, rfl, _, hd⟩ := hy.at (k := k) (by omega)
    obtain ⟨g1, g2, g3, g4, cs, g5, g6⟩ := hs k _ _ hxk hyk
    dsimp only at g1 g2 g3 g4 g5 g6
    subst g1 g2 g3 g4
    (conv => whnf)
    (refine drawS tabOk mixed [] No [0, 1, 2, 3, 4, 5, 6, 7, 8, 9, 10, 11, 12, 13, 14, 15, 16, 17, 18, 19, 20, 21, 22, 23, 24, 25, 26, 27, 28, 29, 30, 31, 32, 33, 34, 35, 36, 37, 38, 39, 40, 41, 42, 43, 44, 45, 46, 47, 48, 49, 50, 51, 52, 53, 54, 55, 56, 57, 58, 59, 60, 61, 62, 63] (by kernel_rfl) ?_; rintro w1 rfl; replace hS := hS.drew)
    repeat' ((conv => whnf); first | refine IdxC.mk (by omega) (by omega) ?_ | refine hS.ldrF (hc.one 0 rfl) id id ?_ | refine hS.ldrF (hc.one 1 rfl) id id ?_ | refine hS.ldrF (hc.one 2 rfl) id id ?_ | refine hS.ldrF (hc.one 3 rfl) id id ?_ | refine hS.ldrF (hc.one 4 rfl) id id ?_ | refine hS.ldrF (hd.one 0 rfl) id id ?_ | refine hS.ldrF (hd.one 1 rfl) id id ?_ | refine hS.ldrF (hd.one 2 rfl) id id ?_ | refine hS.ldrF (hd.one 3 rfl) id id ?_ | refine hS.ldrF (hd.one 4 rfl) id id ?_ | refine brND (fun h => absurd rfl h) (fun _ => ?_))
    obtain rfl : xn = yn := g5.len.symm.trans g6.len
    refine (sameCells_same (g5.no hS.ext) (g6.no hS.ext)).mono ?_
    rintro v w2 ⟨rfl, hx2⟩
    refine KeepC.mk hx2 ?_
    replace hS := hS.no hx2
    (conv => whnf)
    refine RngC.mk (by omega) (by omega) ?_
    (conv => whnf)
    refine LoopE.mk ⟨_, [(5, .int .i64 ((k + 1 : Nat) : Int)), (1, _), (0, _)], ?_, ⟨rfl, rfl, rfl, trivial⟩, ⟨k + 1, rfl, rfl, by omega, hS⟩⟩
    omega
  · obtain rfl : k = n := by omega
    repeat' ((conv => whnf); first | refine RetC.mk ?_ | refine NzC.mk (by decide) ?_ | refine RngC.mk (by omega) (by omega) ?_ | refine IdxC.mk (by omega) (by omega) ?_ | refine brD (fun _ => ?_) (fun _ => ?_) | refine brND (fun _ => ?_) (fun _ => ?_) | refine brN (fun _ => ?_) (fun _ => ?_) | refine brI (fun _ => ?_) (fun _ => ?_))
    exact ⟨rfl, hS.ext⟩
theorem noteOf_ok {x : NoteV} {cs : List CellS} (hx : Slc w 10 encCell (fun _ => True) x.a x.n cs) (hn : x.n ≤ 1000) :
    CallC Tryz.prog 45 #[.agg (encNV x).toArray] w fun v w' => ∃ a' c', v = .agg (encNV ⟨x.fro, x.life, x.epoch, x.claim, a', x.n, c'⟩).toArray ∧ Ext No w w' ∧ (ownL 135 10 encCell (.slice a' x.n c') cs).holds w' ∧ Fresh w w' (.slice a' x.n c') := by
  refine fn_intro tabOk Tryz.func45 (by kernel_rfl) rfl Tryz.ntmps45 (Nat.le_of_ble_eq_true rfl) ?_
  have hS := St.start w No
  (conv => whnf)
  refine hS.new (fun bx w' hbx hS => ?_)
  (conv => whnf)
  refine hS.new (fun br w' hbr hS => ?_)
  replace hS : St w No w' [blk bx 53 (encNV x), blk br 113 (encNV noNV)] := hS
  have hne := hS.ne 0 1 rfl rfl (by decide)
  (conv => whnf)
  (refine drawS tabOk mixed [] (fun b => b = br) [0, 1, 2, 3, 4, 5, 6, 7, 8, 9, 10, 11, 12] (by kernel_rfl) ?_; rintro w1 rfl; replace hS := hS.drew)
  have hK := hS.ref (fun b => b = br)
  repeat' ((conv => whnf); first | refine hS.ldF 0 rfl rfl hne ?_)
  refine (ownCells_ok (hx.no hS.ext) hn).mono ?_
  rintro v w2 ⟨a', c', rfl, hx2, ho, hf⟩
  replace hS := hS.made hx2 ownL_local ho (fun g hg => hf g (by simpa [ownL, own] using hg))
  replace hK := hK.trans hx2.of_no
  refine KeepC.mk hK ?_
  clear hx2 ho hf
  (conv => whnf)
  refine hS.stK hK 1 rfl (Nat.le_of_ble_eq_true rfl) rfl rfl (fun w' hK hS => KeepC.mk hK ?_)
  (conv => whnf)
  refine hS.laX 1 rfl rfl ?_
  repeat' ((conv => whnf); first | refine RetC.mk ?_ | refine NzC.mk (by decide) ?_ | refine RngC.mk (by omega) (by omega) ?_ | refine IdxC.mk (by omega) (by omega) ?_ | refine brD (fun _ => ?_) (fun _ => ?_) | refine brND (fun _ => ?_) (fun _ => ?_) | refine brN (fun _ => ?_) (fun _ => ?_) | refine brI (fun _ => ?_) (fun _ => ?_))
  exact ⟨a', c', rfl, hS.ext, hS.get 2 rfl, hS.freshAt 2 rfl⟩
end
end Go.Proofs.YtakdekkieobbaaaGreatDoor

/-
  A node and its reference, side by side: what is told of them; one act.
-/
namespace Go.Proofs.YtakdekkieobbaaaGreatDoor
open Go Ev
section
variable {w : World}
/-- How a node and its reference stand. -/
theorem asNode_ok {w0 : World} {S : Nat → Prop} {m : Nat} {A : NodeA} {A' : RNodeA} {N : NodeS} {R : RBy} {B : BytS} (hS0 : St w0 S w (nodeB A N B ++ rnodeH A' N R)) (hO : NOk m N) :
    CallC Tryz.prog 15 #[.pointer (some ⟨A.n, 0, none⟩), .pointer (some ⟨A'.n, 0, none⟩)] w fun v w' => v = .int .i64 1 ∧ Ext No w w' := by
  have hS : St w (inF (nodeB A N B ++ rnodeH A' N R)) w (nodeB A N B ++ rnodeH A' N R) := hS0.has.start
  refine fn_intro tabOk Tryz.func15 (by kernel_rfl) rfl Tryz.ntmps15 (Nat.le_of_ble_eq_true rfl) ?_
  (conv => whnf)
  (refine drawS tabOk mixed [] (No) [0, 1, 2, 3, 5, 6, 7, 8, 9, 10, 11, 4, 12, 13, 14, 15, 16, 17, 19, 20, 21, 22, 23, 24, 25, 18, 26, 27, 28, 29, 31, 32, 33, 34, 35, 36, 37, 30, 38, 39, 40, 41, 43, 44, 45, 46, 42, 47, 48] (by kernel_rfl) ?_; rintro w1 rfl; replace hS := hS.drew)
  have hK := hS.ref No
  have h1 := hS
  repeat' ((conv => whnf); first | refine hS.ldF 0 rfl rfl id ?_ | refine hS.ldF 8 rfl rfl id ?_ | refine hS.ldF 9 rfl rfl id ?_)
  refine (role_active (hS.blk 1 rfl)).mono ?_
  rintro v w2 ⟨rfl, rfl⟩
  refine KeepC.mk hK ?_
  (conv => whnf)
  rw [show (!(N.role.active == N.role.active)) = false by cases N.role.active <;> rfl]
  (conv => whnf)
  repeat' ((conv => whnf); first | refine hS.ldF 0 rfl rfl id ?_ | refine hS.ldF 8 rfl rfl id ?_ | refine hS.ldF 9 rfl rfl id ?_)
  refine (role_epoch (hS.blk 1 rfl)).mono ?_
  rintro v w2 ⟨rfl, rfl⟩
  refine KeepC.mk hK ?_
  (conv => whnf)
  refine brND (fun h => absurd rfl h) (fun _ => ?_)
  repeat' ((conv => whnf); first | refine hS.ldF 8 rfl rfl id ?_ | refine hS.ldF 10 rfl rfl id ?_)
  refine (nlife_ok (N := N) (hS.has.left.left)).mono ?_
  rintro v w3 ⟨rfl, hx⟩
  replace hS := hS.no hx
  replace hK := hK.trans hx
  refine KeepC.mk hK ?_
  (conv => whnf)
  refine brND (fun h => absurd rfl h) (fun _ => ?_)
  repeat' ((conv => whnf); first | refine h1.ldF 8 rfl rfl id ?_)
  refine (nnow_ok (N := N) (hS.has.left.left)).mono ?_
  rintro v w4 ⟨rfl, rfl⟩
  refine KeepC.mk hK ?_
  (conv => whnf)
  refine brND (fun h => absurd rfl h) (fun _ => ?_)
  have hK1 := hK
  clear h1 hK hx
  (conv => whnf)
  (refine drawS tabOk mixed [] (No) [0, 2, 3, 4, 5, 6, 7, 8, 1, 9, 10, 11, 12, 14, 15, 16, 17, 18, 19, 20, 13, 21, 22, 23] (by kernel_rfl) ?_; rintro w1 rfl; replace hS := hS.drew)
  have hK := hS.ref No
  have h1 := hS
  repeat' ((conv => whnf); first | refine hS.ldF 8 rfl rfl id ?_ | refine ldFc (refT_l (hS.get 11 rfl)) id ?_)
  refine (ntable_ok (N := N) (hS.has.left.left) hO.tab.len).mono ?_
  rintro v w5 ⟨a1, c1, rfl, hx, ho, hf⟩
  replace hS := hS.no hx
  replace hK := hK.trans hx
  refine KeepC.mk hK ?_
  (conv => whnf)
  refine (sameCells_same (G := fun _ => True) (ownL_slc codCell ho fun _ _ => trivial) (refT_slc (hS.get 11 rfl))).mono ?_
  rintro v w6 ⟨rfl, hx6⟩
  replace hS := hS.no hx6
  replace hK := hK.trans hx6
  refine KeepC.mk hK ?_
  clear hx ho hf hx6
  repeat' ((conv => whnf); first | refine h1.ldF 8 rfl rfl id ?_ | refine ldFc ((h1.get 13 rfl).2.1.cell 1) id ?_)
  refine (nmirror_ok (N := N) (hS.has.left.left) hO.mir).mono ?_
  rintro v w7 ⟨a2, c2, rfl, hx, ho, hf⟩
  replace hS := hS.no hx
  replace hK := hK.trans hx
  refine KeepC.mk hK ?_
  (conv => whnf)
  refine (sameCells_same (G := fun _ => True) (ownL_slc codCell ho fun _ _ => trivial) (ownL_slc codCell (hS.get 13 rfl).2.2 fun _ _ => trivial)).mono ?_
  rintro v w8 ⟨rfl, hx8⟩
  replace hS := hS.no hx8
  replace hK := hK.trans hx8
  refine KeepC.mk hK ?_
  repeat' ((conv => whnf); first | refine RetC.mk ?_ | refine NzC.mk (by decide) ?_ | refine RngC.mk (by omega) (by omega) ?_ | refine IdxC.mk (by omega) (by omega) ?_ | refine brD (fun _ => ?_) (fun _ => ?_) | refine brND (fun _ => ?_) (fun _ => ?_) | refine brN (fun _ => ?_) (fun _ => ?_) | refine brI (fun _ => ?_) (fun _ => ?_))
  exact ⟨rfl, ((Ext.drawn No _ _).trans hK1).trans ((Ext.drawn No _ _).trans hK)⟩
end
end Go.Proofs.YtakdekkieobbaaaGreatDoor

/-
  One act of a node and of its reference.
-/
namespace Go.Proofs.YtakdekkieobbaaaGreatDoor
open Go Ev
def ncut_pr (p : PktS) : List Pr := [.int p.proto, .int p.sa, .int p.sp, .int p.da, .int p.dp, .int p.flags]
theorem eqPkt1 {p : PktS} {k : Value → Prop} (hk : k (.bool true)) :
    PureC Tryz.prog (do eqGuard .eql 50 (.tmp 0) (.tmp 0) (.agg (encPkt p).toArray) (.agg (encPkt p).toArray); Go.binOp .eql 50 (.agg (encPkt p).toArray) (.agg (encPkt p).toArray)) k :=
  eqS (a := ncut_pr p) (b := ncut_pr p) (ks := [.int, .int, .int, .int, .int, .int]) (by kernel_rfl) (by kernel_rfl) (by kernel_rfl) rfl rfl (by simpa using hk)
/-! ### The errors' numbers -/
theorem perr_code (p : PktS) : p.err < 12 := p.err_code
theorem add_code (T : MirS) (a b c d e f g : Int) : (T.add a b c d e f g).1.2 < 12 := by
  unfold MirS.add MirS.lay
  repeat' split
  all_goals (dsimp only; omega)
theorem begin_code (N : NodeS) (p : PktS) : (N.begin p).1.2 < 12 := by
  unfold NodeS.begin
  split
  · show 8 < 12
    decide
  split
  · exact beginS_code _ _
  · exact add_code _ _ _ _ _ _ _ _
theorem inside_code (N : NodeS) (p : PktS) : (N.inside p).1 < 12 := by
  unfold NodeS.inside
  split
  · exact perr_code p
  split
  · show 9 < 12
    decide
  split
  · show 0 < 12
    decide
  split
  · exact begin_code N p
  · show 0 < 12
    decide
theorem outside_code (N : NodeS) (p : PktS) : (N.outside p).1 < 12 := by
  unfold NodeS.outside
  split
  · exact perr_code p
  repeat' split
  all_goals (dsimp only; omega)
theorem tell_code (m : MirS) (l : Int) (xs : List CellS) : (m.tell l xs).1 < 12 := by
  unfold MirS.tell
  repeat' split
  all_goals (dsimp only; omega)
theorem hear_code (N : NodeS) (x : NoteS) : (N.hear x).1 < 12 := by
  unfold NodeS.hear
  split
  · show 2 < 12
    decide
  split
  · show 3 < 12
    decide
  split
  · exact tell_code _ _ _
  · show 0 < 12
    decide
theorem nput_code (C : CelS) (B : BytS) (e l : Int) : (C.put B e l).1 < 12 := by
  unfold CelS.put
  repeat' split
  all_goals dsimp only
  all_goals omega
theorem claim_code (N : NodeS) (B : BytS) : (N.claim B).1.2 < 12 := by
  unfold NodeS.claim
  split
  · show 0 < 12
    decide
  split
  · exact nput_code _ _ _ _
  · show 0 < 12
    decide
theorem tick_code (N : NodeS) (B : BytS) : (N.tick B).1 < 12 := by
  unfold NodeS.tick
  split
  · show 2 < 12
    decide
  split
  · split
    · exact claim_code _ _
    · show 0 < 12
      decide
  · show 0 < 12
    decide
theorem notes_cells (N : NodeS) (c : Bool) : ∀ n ∈ (N.notes c).1, (n.claim = true ∧ n.cells = []) ∨ (n.claim = false ∧ n.cells = cellsOfN (N.notes c).1) := by
  cases hb : N.beat
  · cases c
    · rw [notes_ff hb]
      intro n hn
      cases hn
    · rw [notes_tf hb]
      intro n hn
      obtain rfl := List.mem_singleton.1 hn
      exact .inl ⟨rfl, rfl⟩
  · rw [notes_t hb]
    intro n hn
    rcases List.mem_cons.1 hn with rfl | hn
    · exact .inl ⟨rfl, rfl⟩
    · obtain rfl := List.mem_singleton.1 hn
      exact .inr ⟨rfl, by simp [cellsOfN]⟩
theorem tick_cells (N : NodeS) (B : BytS) : ∀ n ∈ (N.tick B).2.1, (n.claim = true ∧ n.cells = []) ∨ (n.claim = false ∧ n.cells = cellsOfN (N.tick B).2.1) := by
  unfold NodeS.tick
  split
  · intro n hn
    cases hn
  split
  · split
    · intro n hn
      cases hn
    · exact notes_cells _ _
  · exact notes_cells _ _
theorem notes_short (N : NodeS) (c : Bool) : (N.notes c).1.length ≤ 2 := by
  cases hb : N.beat
  · cases c
    · rw [notes_ff hb]
      exact Nat.zero_le _
    · rw [notes_tf hb]
      exact Nat.le_succ _
  · rw [notes_t hb]
    exact Nat.le_refl _
theorem tick_short (N : NodeS) (B : BytS) : (N.tick B).2.1.length ≤ 2 := by
  unfold NodeS.tick
  split
  · exact Nat.zero_le _
  split
  · split
    · exact Nat.zero_le _
    · exact notes_short _ _
  · exact notes_short _ _
theorem noteV_same {w : World} {l : List NoteS} {x x' : Option Addr} {y y' : Nat} (hl : ∀ n ∈ l, (n.claim = true ∧ n.cells = []) ∨ (n.claim = false ∧ n.cells = cellsOfN l)) (h1 : Slc w 10 encCell (fun _ => True) x (cellsOfN l).length (cellsOfN l)) (h2 : Slc w 10 encCell (fun _ => True) x' (cellsOfN l).length (cellsOfN l)) : SameN w (l.map (noteV x y)) (l.map (noteV x' y')) := by
  intro k u v hu hv
  rw [List.getElem?_map] at hu hv
  obtain ⟨n, hn, rfl⟩ := Option.map_eq_some_iff.1 hu
  rw [hn] at hv
  obtain rfl := Option.some.inj hv
  refine ⟨rfl, rfl, rfl, rfl, n.cells, ?_, ?_⟩
  · rcases hl n (List.mem_of_getElem? hn) with ⟨h3, h4⟩ | ⟨h3, h4⟩
    · simp only [noteV, h4]
      exact slc_nil _ _ _ _ _
    · simp only [noteV, h3, h4]
      exact h1
  · rcases hl n (List.mem_of_getElem? hn) with ⟨h3, h4⟩ | ⟨h3, h4⟩
    · simp only [noteV, h4]
      exact slc_nil _ _ _ _ _
    · simp only [noteV, h3, h4]
      exact h2
theorem begin_rules (N : NodeS) (p : PktS) : (N.begin p).2.rules = N.rules := by
  unfold NodeS.begin
  repeat' split
  all_goals rfl
theorem inside_rules (N : NodeS) (p : PktS) : (N.inside p).2.2.rules = N.rules := by
  unfold NodeS.inside
  repeat' split
  all_goals first | rfl | exact begin_rules N p
theorem outside_rules (N : NodeS) (p : PktS) : (N.outside p).2.2.rules = N.rules := by
  unfold NodeS.outside
  repeat' split
  all_goals rfl
theorem hear_rules (N : NodeS) (x : NoteS) : (N.hear x).2.rules = N.rules := by
  unfold NodeS.hear
  repeat' split
  all_goals rfl
theorem claim_rules (N : NodeS) (B : BytS) : (N.claim B).2.1.rules = N.rules := by
  unfold NodeS.claim
  repeat' split
  all_goals rfl
theorem notes_rules (N : NodeS) (c : Bool) : (N.notes c).2.rules = N.rules := by
  unfold NodeS.notes
  dsimp only
  split <;> rfl
theorem tick_rules (N : NodeS) (B : BytS) : (N.tick B).2.2.1.rules = N.rules := by
  unfold NodeS.tick
  split
  · rfl
  split
  · split
    · exact claim_rules _ _
    · exact (notes_rules _ (N.step.2.claim B).1.1).trans (claim_rules _ _)
  · exact notes_rules _ false
theorem NOk.inside {m : Nat} {N : NodeS} (h : NOk m N) (p : PktS) : NOk (m + 1) (N.inside p).2.2 := by
  unfold NodeS.inside
  split
  · exact h.mono (Nat.le_succ _)
  split
  · exact h.mono (Nat.le_succ _)
  split
  · exact h.pass _ _ _
  split
  all_goals exact h.begin p
theorem NOk.outside {m : Nat} {N : NodeS} (h : NOk m N) (p : PktS) : NOk (m + 1) (N.outside p).2.2 := by
  unfold NodeS.outside
  split
  · exact h.mono (Nat.le_succ _)
  split
  · exact h.mono (Nat.le_succ _)
  split
  · exact h.mono (Nat.le_succ _)
  split
  · exact h.mono (Nat.le_succ _)
  · exact h.pass _ _ _
/-! ### Power that fails -/
theorem ncut_ok {B : BytS} (h : BOk B) (k : Int) (hk : I64 k) : BOk (if k < 0 ∨ B.off = true then B else ⟨B.data, B.off, k⟩) := by
  split
  · exact h
  · exact ⟨h.len, by dsimp only; omega, hk.2⟩
theorem ncut_alike {R : RBy} {B : BytS} (h : Alike R B) (k : Int) : Alike (if k < 0 ∨ R.off = true then R else ⟨R.data, R.off, k, true⟩) (if k < 0 ∨ B.off = true then B else ⟨B.data, B.off, k⟩) := by
  rw [h.off]
  split
  · exact h
  · exact ⟨h.data, rfl, fun _ => ⟨rfl, by dsimp only; omega⟩, fun h => absurd h (by simp)⟩
theorem ncut_rok {R : RBy} {n : Nat} (h : ROk R n) (k : Int) (hk : I64 k) : ROk (if k < 0 ∨ R.off = true then R else ⟨R.data, R.off, k, true⟩) n := by
  split
  · exact h
  · exact ⟨h.len, fun _ => by dsimp only; omega, by dsimp only; omega, hk.2⟩

/-! ### An act -/
structure ActN where
  kind : ByteArray
  n : Int
  p : PktS
  x : NoteV
  cs : List CellS
  ra : Option Addr
  rn : Nat
  rc : Nat
  rules : List RuleS
def encAN (a : ActN) : List Value := .string a.kind :: .int .i64 a.n :: (encPkt a.p ++ (encNV a.x ++ [.slice a.ra a.rn a.rc]))
theorem codAN : Codec 14 encAN := ⟨fun _ => rfl, fun _ => rfl, by decide⟩
structure ActN.Ok (W : World) (a : ActN) : Prop where
  cells : Slc W 10 encCell (fun _ => True) a.x.a a.x.n a.cs
  rules : Slc W 5 encRule (fun _ => True) a.ra a.rn a.rules
  n : I64 a.n
structure ActN.Fit (a : ActN) : Prop where
  cells : a.x.n ≤ 20
  rules : a.rn ≤ 30
  n : a.n ≤ 1000
/-- A node and its reference, side by side. -/
structure Side (W w : World) (m j : Nat) (A : NodeA) (A' : RNodeA) (N : NodeS) (R : RBy) (B : BytS) : Prop where
  st : St W No w (nodeB A N B ++ rnodeH A' N R)
  ok : NOk m N
  bok : BOk B
  ali : Alike R B
  rok : ROk R j
  rul : Slc W 5 encRule (fun _ => True) A'.ra N.rules.length N.rules
theorem ROk.mono {R : RBy} {j k : Nat} (h : ROk R j) (hk : j ≤ k) : ROk R k := ⟨h.len, h.bnd, by have := h.lo; omega, h.hi⟩
def Acted (W w : World) (m j : Nat) (A : NodeA) (A' : RNodeA) : Prop := ∃ (A2 : NodeA) (A2' : RNodeA) (N2 : NodeS) (R2 : RBy) (B2 : BytS), A2.n = A.n ∧ A2.b = A.b ∧ A2'.n = A'.n ∧ A2'.b = A'.b ∧ Side W w m j A2 A2' N2 R2 B2
section
variable {W w : World}
/-- What is known is younger than the call. -/
theorem Ev.St.old {H : List Ent} (h : St W No w H) {b : Nat} (hb : b < W.heap.size) : ¬ inF H b := fun h1 => by
  have := h.high (q := W.heap.size) (fun _ h => h.elim) (Nat.le_refl _) b h1
  omega
theorem act_ok {E : Nat → Addr} {m j : Nat} {A : NodeA} {A' : RNodeA} {N : NodeS} {R : RBy} {B : BytS} (a : ActN) (h : Side W w m j A A' N R B) (hm : m + 34000 ≤ 40000000) (hj : j + 18000 ≤ 50000000) (ha : a.Ok W) (hf : a.Fit) (hE : Errs W E W.heap.size allErrs) (hh : Handle W) :
    CallC Tryz.prog 14 #[.pointer (some ⟨A.n, 0, none⟩), .pointer (some ⟨A'.n, 0, none⟩), .pointer (some ⟨A.b, 0, none⟩), .pointer (some ⟨A'.b, 0, none⟩), .agg (encAN a).toArray] w fun v w' => v = .bool true ∧ Acted W w' (m + 34000) (j + 18000) A A' := by
  obtain ⟨hS, hO, hB, hA, hR, hr⟩ := h
  have hqW : ∀ b, No b → W.heap.size ≤ b := fun _ h => h.elim
  refine fn_intro tabOk Tryz.func14 (by kernel_rfl) rfl Tryz.ntmps14 (Nat.le_of_ble_eq_true rfl) ?_
  (conv => whnf)
  refine hS.new (fun bx w' hbx hS => ?_)
  replace hS : St W No w' (nodeB A N B ++ (rnodeH A' N R ++ [blk bx 55 (encAN a)])) := hS
  (conv => whnf)
  refine hS.ld 15 rfl (v := .string a.kind) rfl ?_
  (conv => whnf)
  refine eqStr ?_
  (conv => whnf)
  refine brD (fun _ => ?_) (fun _ => ?_)
  · (conv => whnf)
    refine hS.laX 15 rfl rfl ?_
    (conv => whnf)
    replace hS : St W No w' (nodeH A N ++ ([blk A.b 72 (encBy B)] ++ (rnodeH A' N R ++ [blk bx 55 (encAN a)]))) := hS
    refine (ninside_ok a.p hS.has.left hO (by omega) (hE.ext hS.ext hqW) (fun b hb => hS.high hqW (Nat.le_refl _) b (inF_app.2 (.inl hb)))).mono ?_
    rintro v w2 ⟨rfl, ht⟩
    replace hS := St.call hS ht
    (conv => whnf)
    refine hS.new (fun b1 w' hb1 hS => ?_)
    (conv => whnf)
    refine hS.st 16 rfl (Nat.le_of_ble_eq_true rfl) rfl (fun w' hS => ?_)
    replace hS : St W No w' (nodeB A (N.inside a.p).2.2 B ++ (rnodeH A' N R ++ [blk bx 55 (encAN a), blk b1 50 (encPkt (N.inside a.p).2.1)])) := hS
    (conv => whnf)
    refine hS.laX 15 rfl rfl ?_
    (conv => whnf)
    refine (rinside_ok a.p hS.has.right.left hO (by omega) (hr.no hS.ext) (fun h b0 o0 h0 h1 => ?_)).mono ?_
    · obtain ⟨b2, o2, _, _, _, h2, h3, _⟩ := hr.at h
      rw [h2] at h0
      cases h0
      exact hS.old h3 (inF_app.2 (.inr (inF_app.2 (.inl h1))))
    rintro v w3 ⟨rfl, ht⟩
    replace hS := St.callAt hS ht
    (conv => whnf)
    refine hS.new (fun b2 w' hb2 hS => ?_)
    (conv => whnf)
    refine hS.st 17 rfl (Nat.le_of_ble_eq_true rfl) rfl (fun w' hS => ?_)
    replace hS : St W No w' ((nodeB A (N.inside a.p).2.2 B ++ rnodeH A' (N.inside a.p).2.2 R) ++ [blk bx 55 (encAN a), blk b1 50 (encPkt (N.inside a.p).2.1), blk b2 50 (encPkt (N.inside a.p).2.1)]) := hS
    (conv => whnf)
    refine (coded2_same (N.inside a.p).1 (inside_code _ _) _ (hE.ext hS.ext fun _ h => h.elim) (hh.ext hS.ext)).mono ?_
    rintro v w4 ⟨rfl, hx⟩
    replace hS := hS.no hx
    (conv => whnf)
    refine hS.laX 16 rfl rfl ?_
    (conv => whnf)
    refine hS.laX 17 rfl rfl ?_
    (conv => whnf)
    refine eqPkt1 ?_
    repeat' ((conv => whnf); first | refine RetC.mk ?_ | refine NzC.mk (by decide) ?_ | refine RngC.mk (by omega) (by omega) ?_ | refine IdxC.mk (by omega) (by omega) ?_ | refine brD (fun _ => ?_) (fun _ => ?_) | refine brND (fun _ => ?_) (fun _ => ?_) | refine brN (fun _ => ?_) (fun _ => ?_) | refine brI (fun _ => ?_) (fun _ => ?_))
    refine ⟨rfl, A, A', (N.inside a.p).2.2, R, B, rfl, rfl, rfl, rfl, hS.weaken (List.sublist_append_left _ _), ?_, hB, hA, hR.mono (by omega), ?_⟩
    · exact (hO.inside a.p).mono (by omega)
    · rw [inside_rules]
      exact hr
  (conv => whnf)
  refine eqStr ?_
  (conv => whnf)
  refine brD (fun _ => ?_) (fun _ => ?_)
  · (conv => whnf)
    refine hS.laX 15 rfl rfl ?_
    (conv => whnf)
    replace hS : St W No w' (nodeH A N ++ ([blk A.b 72 (encBy B)] ++ (rnodeH A' N R ++ [blk bx 55 (encAN a)]))) := hS
    refine (noutside_ok a.p hS.has.left hO (by omega) (hE.ext hS.ext hqW) (fun b hb => hS.high hqW (Nat.le_refl _) b (inF_app.2 (.inl hb)))).mono ?_
    rintro v w2 ⟨rfl, ht⟩
    replace hS := St.call hS ht
    (conv => whnf)
    refine hS.new (fun b1 w' hb1 hS => ?_)
    (conv => whnf)
    refine hS.st 16 rfl (Nat.le_of_ble_eq_true rfl) rfl (fun w' hS => ?_)
    replace hS : St W No w' (nodeB A (N.outside a.p).2.2 B ++ (rnodeH A' N R ++ [blk bx 55 (encAN a), blk b1 50 (encPkt (N.outside a.p).2.1)])) := hS
    (conv => whnf)
    refine hS.laX 15 rfl rfl ?_
    (conv => whnf)
    refine (routside_ok a.p hS.has.right.left hO (by omega)).mono ?_
    rintro v w3 ⟨rfl, ht⟩
    replace hS := St.callAt hS ht
    (conv => whnf)
    refine hS.new (fun b2 w' hb2 hS => ?_)
    (conv => whnf)
    refine hS.st 17 rfl (Nat.le_of_ble_eq_true rfl) rfl (fun w' hS => ?_)
    replace hS : St W No w' ((nodeB A (N.outside a.p).2.2 B ++ rnodeH A' (N.outside a.p).2.2 R) ++ [blk bx 55 (encAN a), blk b1 50 (encPkt (N.outside a.p).2.1), blk b2 50 (encPkt (N.outside a.p).2.1)]) := hS
    (conv => whnf)
    refine (coded2_same (N.outside a.p).1 (outside_code _ _) _ (hE.ext hS.ext fun _ h => h.elim) (hh.ext hS.ext)).mono ?_
    rintro v w4 ⟨rfl, hx⟩
    replace hS := hS.no hx
    (conv => whnf)
    refine hS.laX 16 rfl rfl ?_
    (conv => whnf)
    refine hS.laX 17 rfl rfl ?_
    (conv => whnf)
    refine eqPkt1 ?_
    repeat' ((conv => whnf); first | refine RetC.mk ?_ | refine NzC.mk (by decide) ?_ | refine RngC.mk (by omega) (by omega) ?_ | refine IdxC.mk (by omega) (by omega) ?_ | refine brD (fun _ => ?_) (fun _ => ?_) | refine brND (fun _ => ?_) (fun _ => ?_) | refine brN (fun _ => ?_) (fun _ => ?_) | refine brI (fun _ => ?_) (fun _ => ?_))
    refine ⟨rfl, A, A', (N.outside a.p).2.2, R, B, rfl, rfl, rfl, rfl, hS.weaken (List.sublist_append_left _ _), ?_, hB, hA, hR.mono (by omega), ?_⟩
    · exact (hO.outside a.p).mono (by omega)
    · rw [outside_rules]
      exact hr
  (conv => whnf)
  refine eqStr ?_
  (conv => whnf)
  refine brD (fun _ => ?_) (fun _ => ?_)
  · have hbT : ¬ (inF (nodeH A N) bx ∨ inF (rnodeH A' N R) bx) := by
      have hap := List.pairwise_append.1 hS.apart
      rintro (⟨e, he, hb⟩ | ⟨e, he, hb⟩)
      · exact hap.2.2 e (List.mem_append_left _ he) _ (List.mem_append_right _ (List.mem_singleton.2 rfl)) bx hb (List.mem_singleton.2 rfl)
      · exact (List.pairwise_append.1 hap.2.1).2.2 e he _ (List.mem_singleton.2 rfl) bx hb (List.mem_singleton.2 rfl)
    (conv => whnf)
    (refine drawS tabOk mixed [] (fun b => inF (nodeH A N) b ∨ inF (rnodeH A' N R) b) [0, 1, 2, 5, 6, 7, 3, 4, 8, 9, 10] (by kernel_rfl) ?_; rintro w1 rfl; replace hS := hS.drew)
    have hK := hS.ref (fun b => inF (nodeH A N) b ∨ inF (rnodeH A' N R) b)
    repeat' ((conv => whnf); first | refine hS.laXF 15 rfl rfl hbT ?_)
    refine (noteOf_ok (x := a.x) (ha.cells.no hS.ext) (by have := hf.cells; omega)).mono ?_
    rintro v w2 ⟨a', c', rfl, hx, ho, hfr⟩
    replace hS := hS.made hx ownL_local ho (fun g hg => hfr g (by simpa [ownL, own] using hg))
    replace hK := hK.trans hx.of_no
    refine KeepC.mk hK ?_
    clear hx ho hfr hbT
    replace hS : St W No w2 (nodeH A N ++ ([blk A.b 72 (encBy B)] ++ (rnodeH A' N R ++ [blk bx 55 (encAN a), ownL 135 10 encCell (.slice a' a.x.n c') a.cs]))) := hS
    (conv => whnf)
    refine (nhear_ok (G := fun _ => True) ⟨a.x.fro, a.x.life, a.x.epoch, a.x.claim, a', a.x.n, c'⟩ a.cs (ownL_slc codCell (hS.get 16 rfl) fun _ _ => trivial) (fun h b0 o0 h0 h1 => ?_) hS.has.left hO (hE.ext hS.ext hqW) (fun b hb => hS.high hqW (Nat.le_refl _) b (inF_app.2 (.inl hb)))).mono ?_
    · obtain ⟨e, he, hb⟩ := h1
      dsimp only at h0
      subst h0
      exact (List.pairwise_append.1 hS.apart).2.2 e he _ (List.mem_append_right _ (List.mem_append_right _ (List.mem_cons_of_mem _ (List.mem_singleton.2 rfl)))) b0 hb (by simp [ownL, own, Value.ownBlock])
    rintro v w3 ⟨rfl, ht⟩
    replace hS := St.call hS ht
    replace hK := hK.trans (ht.ext.mono fun b h => .inl h)
    refine KeepC.mk hK ?_
    clear ht
    dsimp only at hS ⊢
    generalize hxs : (⟨a.x.fro, a.x.life, a.x.epoch, a.x.claim, a.cs⟩ : NoteS) = xs at hS ⊢
    replace hS : St W No w3 (nodeB A (N.hear xs).2 B ++ (rnodeH A' N R ++ [blk bx 55 (encAN a), ownL 135 10 encCell (.slice a' a.x.n c') a.cs])) := hS
    (conv => whnf)
    refine (rhear_ok a.x a.cs (ha.cells.no hS.ext) (fun h b0 o0 h0 h1 => ?_) hS.has.right.left hO).mono ?_
    · obtain ⟨b2, o2, _, _, _, h2, h3, _⟩ := ha.cells.at h
      rw [h2] at h0
      cases h0
      exact hS.old h3 (inF_app.2 (.inr (inF_app.2 (.inl h1))))
    rintro v w4 ⟨rfl, g', c2, ht⟩
    replace hS := St.callAt hS ht
    replace hK := hK.trans (ht.ext.mono fun b h => .inr h)
    refine KeepC.mk hK ?_
    clear ht
    rw [hxs] at hS ⊢
    (conv => whnf)
    refine (coded2_same (N.hear xs).1 (hear_code _ _) _ (hE.ext hS.ext fun _ h => h.elim) (hh.ext hS.ext)).mono ?_
    rintro v w5 ⟨rfl, hx⟩
    replace hS := hS.no hx
    refine KeepC.mk (hK.trans hx.of_no) ?_
    repeat' ((conv => whnf); first | refine RetC.mk ?_ | refine NzC.mk (by decide) ?_ | refine RngC.mk (by omega) (by omega) ?_ | refine IdxC.mk (by omega) (by omega) ?_ | refine brD (fun _ => ?_) (fun _ => ?_) | refine brND (fun _ => ?_) (fun _ => ?_) | refine brN (fun _ => ?_) (fun _ => ?_) | refine brI (fun _ => ?_) (fun _ => ?_))
    refine ⟨rfl, A, { A' with mg := g', mc := c2 }, (N.hear xs).2, R, B, rfl, rfl, rfl, rfl, (show St W No w5 ((nodeB A (N.hear xs).2 B ++ rnodeH { A' with mg := g', mc := c2 } (N.hear xs).2 R) ++ _) from hS).weaken (List.sublist_append_left _ _), (hO.hear xs).mono (by omega), hB, hA, hR.mono (by omega), ?_⟩
    rw [hear_rules]
    exact hr
  (conv => whnf)
  refine eqStr ?_
  (conv => whnf)
  refine brD (fun _ => ?_) (fun _ => ?_)
  · have hcd := fault_code a.rules
    have hrn := ha.rules.len
    (conv => whnf)
    refine hS.ld 15 rfl (v := .slice a.ra a.rn a.rc) rfl ?_
    (conv => whnf)
    refine (rulesFault_ok (ha.rules.no hS.ext)).mono ?_
    rintro v w2 ⟨rfl, hx⟩
    replace hS := hS.no hx
    clear hx
    (conv => whnf)
    refine hS.new (fun bf w' hbf hS => ?_)
    (conv => whnf)
    refine hS.st 16 rfl (Nat.le_of_ble_eq_true rfl) rfl (fun w' hS => ?_)
    replace hS : St W No w' (nodeB A N B ++ (rnodeH A' N R ++ [blk bx 55 (encAN a), blk bf 37 (encF (faultL a.rules).1 (faultL a.rules).2)])) := hS
    (conv => whnf)
    refine hS.ld 16 rfl rfl ?_
    (conv => whnf)
    refine brD (fun h0 => ?_) (fun h0 => ?_)
    · (conv => whnf)
      refine hS.ld 15 rfl (v := .slice a.ra a.rn a.rc) rfl ?_
      (conv => whnf)
      refine hS.st 8 rfl (Nat.le_of_ble_eq_true rfl) rfl (fun w' hS => ?_)
      replace hS : St W No w' (nodeB A N B ++ (rnodeH { A' with ra := a.ra, rc := a.rc } { N with rules := a.rules } R ++ [blk bx 55 (encAN a), blk bf 37 (encF (faultL a.rules).1 (faultL a.rules).2)])) := by
        unfold rnodeH encRN
        dsimp only
        rw [hrn]
        exact hS
      (conv => whnf)
      (refine drawS tabOk mixed [] (fun b => inF (nodeH A N) b) [0, 1, 2, 5, 3, 4, 6, 7] (by kernel_rfl) ?_; rintro w1 rfl; replace hS := hS.drew)
      have hK := hS.ref (fun b => inF (nodeH A N) b)
      have hbT : ∀ b e, e ∈ [blk bx 55 (encAN a), blk bf 37 (encF (faultL a.rules).1 (faultL a.rules).2)] → b ∈ e.foot → ¬ inF (nodeH A N) b := by
        intro b e he hb h1
        obtain ⟨f, hf, hb2⟩ := h1
        exact (List.pairwise_append.1 hS.apart).2.2 f (List.mem_append_left _ hf) e (List.mem_append_right _ he) b hb2 hb
      have hbx1 := hbT bx _ List.mem_cons_self (List.mem_singleton.2 rfl)
      have hbf1 := hbT bf _ (List.mem_cons_of_mem _ List.mem_cons_self) (List.mem_singleton.2 rfl)
      repeat' ((conv => whnf); first | refine hS.ldF 15 rfl (v := .slice a.ra a.rn a.rc) rfl hbx1 ?_ | refine hS.laXF 16 rfl rfl hbf1 ?_)
      refine (ownRules_ok (ha.rules.no hS.ext) (by have := hf.rules; omega)).mono ?_
      rintro v w3 ⟨a', c', rfl, hx, ho, hfr⟩
      replace hS := hS.made hx ownL_local ho (fun g hg => hfr g (by simpa [ownL, own] using hg))
      replace hK := hK.trans hx.of_no
      refine KeepC.mk hK ?_
      clear hx ho hfr hbT hbx1 hbf1
      (conv => whnf)
      replace hS : St W No w3 (nodeH A N ++ ([blk A.b 72 (encBy B)] ++ (rnodeH { A' with ra := a.ra, rc := a.rc } { N with rules := a.rules } R ++ [blk bx 55 (encAN a), blk bf 37 (encF (faultL a.rules).1 (faultL a.rules).2), ownL 85 5 encRule (.slice a' a.rn c') a.rules]))) := hS
      have hslc := ownL_slc (G := fun _ => True) codRule (hS.get 17 rfl) fun _ _ => trivial
      refine (nrules_ok hslc (by have := hf.rules; omega) hS.has.left (hE.ext hS.ext hqW) (fun h b0 o0 h0 h1 => ?_)).mono ?_
      · obtain ⟨e, he, hb⟩ := h1
        subst h0
        exact (List.pairwise_append.1 hS.apart).2.2 e he _ (List.mem_append_right _ (List.mem_append_right _ (List.mem_cons_of_mem _ (List.mem_cons_of_mem _ (List.mem_singleton.2 rfl))))) b0 hb (by simp [ownL, own, Value.ownBlock])
      rintro v w4 ⟨hF, ra, rc, ht⟩
      replace hS := St.call hS ht
      replace hK := hK.trans ht.ext
      refine KeepC.mk hK ?_
      clear ht hslc
      (conv => whnf)
      refine (faulted2_ok hF (by omega) (by omega) (hE.ext hS.ext fun _ h => h.elim) (hh.ext hS.ext)).mono ?_
      rintro v w5 ⟨rfl, hx⟩
      replace hS := hS.no hx
      refine KeepC.mk (hK.trans hx.of_no) ?_
      clear hF hx hK
      repeat' ((conv => whnf); first | refine RetC.mk ?_ | refine NzC.mk (by decide) ?_ | refine RngC.mk (by omega) (by omega) ?_ | refine IdxC.mk (by omega) (by omega) ?_ | refine brD (fun _ => ?_) (fun _ => ?_) | refine brND (fun _ => ?_) (fun _ => ?_) | refine brN (fun _ => ?_) (fun _ => ?_) | refine brI (fun _ => ?_) (fun _ => ?_))
      rw [if_pos (show (faultL a.rules).1 = 0 by omega)] at hS
      refine ⟨rfl, { A with ra := ra, rc := rc }, { A' with ra := a.ra, rc := a.rc }, { N with rules := a.rules }, R, B, rfl, rfl, rfl, rfl, (show St W No w5 ((nodeB { A with ra := ra, rc := rc } { N with rules := a.rules } B ++ rnodeH { A' with ra := a.ra, rc := a.rc } { N with rules := a.rules } R) ++ _) from hS).weaken (List.sublist_append_left _ _), ?_, hB, hA, hR.mono (by omega), ?_⟩
      · have h1 := hO.mono (n := m + 34000) (by omega)
        exact ⟨h1.id, h1.n0, h1.n1, h1.role, h1.rid, h1.sil, h1.num, h1.ep, h1.li, h1.tab, h1.lif, h1.told, h1.cur, h1.mir, fault_good.1 (show (faultL a.rules).1 = 0 by omega)⟩
      · show Slc W 5 encRule (fun _ => True) a.ra a.rules.length a.rules
        rw [hrn]
        exact ha.rules
    · skip
      (conv => whnf)
      (refine drawS tabOk mixed [] (fun b => inF (nodeH A N) b) [0, 1, 2, 5, 3, 4, 6, 7] (by kernel_rfl) ?_; rintro w1 rfl; replace hS := hS.drew)
      have hK := hS.ref (fun b => inF (nodeH A N) b)
      have hbT : ∀ b e, e ∈ [blk bx 55 (encAN a), blk bf 37 (encF (faultL a.rules).1 (faultL a.rules).2)] → b ∈ e.foot → ¬ inF (nodeH A N) b := by
        intro b e he hb h1
        obtain ⟨f, hf, hb2⟩ := h1
        exact (List.pairwise_append.1 hS.apart).2.2 f (List.mem_append_left _ hf) e (List.mem_append_right _ he) b hb2 hb
      have hbx1 := hbT bx _ List.mem_cons_self (List.mem_singleton.2 rfl)
      have hbf1 := hbT bf _ (List.mem_cons_of_mem _ List.mem_cons_self) (List.mem_singleton.2 rfl)
      repeat' ((conv => whnf); first | refine hS.ldF 15 rfl (v := .slice a.ra a.rn a.rc) rfl hbx1 ?_ | refine hS.laXF 16 rfl rfl hbf1 ?_)
      refine (ownRules_ok (ha.rules.no hS.ext) (by have := hf.rules; omega)).mono ?_
      rintro v w3 ⟨a', c', rfl, hx, ho, hfr⟩
      replace hS := hS.made hx ownL_local ho (fun g hg => hfr g (by simpa [ownL, own] using hg))
      replace hK := hK.trans hx.of_no
      refine KeepC.mk hK ?_
      clear hx ho hfr hbT hbx1 hbf1
      (conv => whnf)
      replace hS : St W No w3 (nodeH A N ++ ([blk A.b 72 (encBy B)] ++ (rnodeH A' N R ++ [blk bx 55 (encAN a), blk bf 37 (encF (faultL a.rules).1 (faultL a.rules).2), ownL 85 5 encRule (.slice a' a.rn c') a.rules]))) := hS
      have hslc := ownL_slc (G := fun _ => True) codRule (hS.get 17 rfl) fun _ _ => trivial
      refine (nrules_ok hslc (by have := hf.rules; omega) hS.has.left (hE.ext hS.ext hqW) (fun h b0 o0 h0 h1 => ?_)).mono ?_
      · obtain ⟨e, he, hb⟩ := h1
        subst h0
        exact (List.pairwise_append.1 hS.apart).2.2 e he _ (List.mem_append_right _ (List.mem_append_right _ (List.mem_cons_of_mem _ (List.mem_cons_of_mem _ (List.mem_singleton.2 rfl))))) b0 hb (by simp [ownL, own, Value.ownBlock])
      rintro v w4 ⟨hF, ra, rc, ht⟩
      replace hS := St.call hS ht
      replace hK := hK.trans ht.ext
      refine KeepC.mk hK ?_
      clear ht hslc
      (conv => whnf)
      refine (faulted2_ok hF (by omega) (by omega) (hE.ext hS.ext fun _ h => h.elim) (hh.ext hS.ext)).mono ?_
      rintro v w5 ⟨rfl, hx⟩
      replace hS := hS.no hx
      refine KeepC.mk (hK.trans hx.of_no) ?_
      clear hF hx hK
      repeat' ((conv => whnf); first | refine RetC.mk ?_ | refine NzC.mk (by decide) ?_ | refine RngC.mk (by omega) (by omega) ?_ | refine IdxC.mk (by omega) (by omega) ?_ | refine brD (fun _ => ?_) (fun _ => ?_) | refine brND (fun _ => ?_) (fun _ => ?_) | refine brN (fun _ => ?_) (fun _ => ?_) | refine brI (fun _ => ?_) (fun _ => ?_))
      rw [if_neg (show ¬ (faultL a.rules).1 = 0 by omega)] at hS
      exact ⟨rfl, { A with ra := ra, rc := rc }, A', N, R, B, rfl, rfl, rfl, rfl, (show St W No w5 ((nodeB { A with ra := ra, rc := rc } N B ++ rnodeH A' N R) ++ _) from hS).weaken (List.sublist_append_left _ _), hO.mono (by omega), hB, hA, hR.mono (by omega), hr⟩
  (conv => whnf)
  refine eqStr ?_
  (conv => whnf)
  refine brD (fun _ => ?_) (fun _ => ?_)
  · have hn1 := hS.ne 15 7 rfl rfl (by decide)
    have hn2 := hS.ne 15 14 rfl rfl (by decide)
    (conv => whnf)
    (refine drawS tabOk mixed [] (fun b => b = A.b ∨ b = A'.b) [0, 1, 2, 4, 5, 6, 3, 7, 8, 9] (by kernel_rfl) ?_; rintro w1 rfl; replace hS := hS.drew)
    have hK := hS.ref (fun b => b = A.b ∨ b = A'.b)
    repeat' ((conv => whnf); first | refine hS.ldF 15 rfl rfl (fun h => h.elim hn1 hn2) ?_)
    refine (bcut_ok a.n (hS.blk 7 rfl) hB.len ((hE.sub rfl).ext hS.ext fun _ h => h.elim) (hS.high hqW (Nat.le_refl _) A.b (inF_app.2 (.inl nodeB_b)))).mono ?_
    rintro v w2 ⟨rfl, hx, hB1⟩
    replace hS := hS.upd 7 rfl hx (fun c hc => by subst hc; exact List.mem_singleton.2 rfl) (blk_local _ _ _) hB1 (fun c hc => .inl hc)
    replace hK := hK.trans (hx.mono fun b h => .inl h)
    refine KeepC.mk hK ?_
    clear hx hB1
    (conv => whnf)
    refine (rbcut_ok a.n (hS.blk 14 rfl)).mono ?_
    rw [hA.off]
    rintro v w3 ⟨rfl, hx, hB1⟩
    replace hS := hS.upd 14 rfl hx (fun c hc => by subst hc; exact List.mem_singleton.2 rfl) (blk_local _ _ _) hB1 (fun c hc => .inl hc)
    replace hK := hK.trans (hx.mono fun b h => .inr h)
    refine KeepC.mk hK ?_
    clear hx hB1
    (conv => whnf)
    refine (coded2_same (if a.n < 0 then 2 else if B.off = true then 7 else 0) (by split; decide; split <;> decide) _ (hE.ext hS.ext fun _ h => h.elim) (hh.ext hS.ext)).mono ?_
    rintro v w5 ⟨rfl, hx⟩
    replace hS := hS.no hx
    refine KeepC.mk (hK.trans hx.of_no) ?_
    repeat' ((conv => whnf); first | refine RetC.mk ?_ | refine NzC.mk (by decide) ?_ | refine RngC.mk (by omega) (by omega) ?_ | refine IdxC.mk (by omega) (by omega) ?_ | refine brD (fun _ => ?_) (fun _ => ?_) | refine brND (fun _ => ?_) (fun _ => ?_) | refine brN (fun _ => ?_) (fun _ => ?_) | refine brI (fun _ => ?_) (fun _ => ?_))
    refine ⟨rfl, A, A', N, (if a.n < 0 ∨ R.off = true then R else ⟨R.data, R.off, a.n, true⟩), (if a.n < 0 ∨ B.off = true then B else ⟨B.data, B.off, a.n⟩), rfl, rfl, rfl, rfl, ?_, hO.mono (by omega), ncut_ok hB _ ha.n, ncut_alike hA _, (ncut_rok hR _ ha.n).mono (by omega), hr⟩
    rw [← hA.off] at hS
    rw [hA.off]
    rw [hA.off] at hS
    exact (show St W No w5 ((nodeB A N _ ++ rnodeH A' N _) ++ _) from hS).weaken (List.sublist_append_left _ _)
  (conv => whnf)
  refine loopR tabOk (fun σ w' q => ∃ (i : Nat) (N2 : NodeS) (R2 : RBy) (B2 : BytS), σ = [(20, .int .i64 i), (9, .pointer (some ⟨bx, 0, none⟩)), (1, .pointer (some ⟨A'.n, 0, none⟩)), (0, .pointer (some ⟨A.n, 0, none⟩))] ∧ q = a.n.toNat - i ∧ i ≤ a.n.toNat ∧ St W No w' (nodeB A N2 B2 ++ (rnodeH A' N2 R2 ++ [blk bx 55 (encAN a)])) ∧ NOk (m + 34 * i) N2 ∧ BOk B2 ∧ Alike R2 B2 ∧ ROk R2 (j + 18 * i) ∧ N2.rules = N.rules)
    (σ' := [(20, .int .i64 ((0 : Nat) : Int)), (9, .pointer (some ⟨bx, 0, none⟩)), (1, .pointer (some ⟨A'.n, 0, none⟩)), (0, .pointer (some ⟨A.n, 0, none⟩))]) (n := a.n.toNat) ⟨rfl, rfl, rfl, rfl, trivial⟩ ⟨0, N, R, B, rfl, rfl, Nat.zero_le _, hS, hO, hB, hA, hR, rfl⟩ ?_
  clear hS hO hB hA hR
  rintro _ w1 q ⟨i, N2, R2, B2, rfl, rfl, hi, hS, hO, hB, hA, hR, hrl⟩
  have hn := hf.n
  (conv => whnf)
  refine hS.ld 15 rfl (v := .int .i64 a.n) rfl ?_
  (conv => whnf)
  refine brD (fun h3 => ?_) (fun h3 => ?_)
  · (conv => whnf)
    refine (ntick_ok hS.has.left hO hB (by omega) (hE.ext hS.ext hqW) (fun b hb => hS.high hqW (Nat.le_refl _) b (inF_app.2 (.inl hb)))).mono ?_
    rintro v w2 ⟨a1, c1, x1, y1, rfl, ht⟩
    replace hS := St.call hS ht
    clear ht
    (conv => whnf)
    refine (rtick_ok hS.has.right.left hO hB hA hR (by omega) (by omega)).mono ?_
    rintro v w3 ⟨a2, c2, x2, y2, R3, rfl, hA3, hR3, ht⟩
    replace hS := St.callAt hS ht
    clear ht
    have hO3 := hO.tick (by omega) B2
    have hB3 := NodeS.tick_bok (N := N2) hB
    have hcells := tick_cells N2 B2
    have hshort := tick_short N2 B2
    have hcode := tick_code N2 B2
    have hrl3 := (tick_rules N2 B2).trans hrl
    clear hO hB hA hR hrl
    generalize N2.tick B2 = T at hS hO3 hB3 hcells hshort hcode hrl3 hA3 ⊢
    obtain ⟨code, l, N3, B3⟩ := T
    dsimp only at hS hO3 hB3 hcells hshort hcode hrl3 hA3 ⊢
    replace hS : St W No w3 (nodeB A N3 B3 ++ (noteH a1 c1 x1 y1 l ++ (rnodeH A' N3 R3 ++ (rnoteH a2 c2 x2 y2 l ++ [blk bx 55 (encAN a)])))) := hS
    (conv => whnf)
    refine (coded2_same code hcode _ (hE.ext hS.ext fun _ h => h.elim) (hh.ext hS.ext)).mono ?_
    rintro v w4 ⟨rfl, hx⟩
    replace hS := hS.no hx
    clear hx
    (conv => whnf)
    refine (backNotes_ok (G := fun _ => True) (ownL_slc codNote (hS.get 8 rfl) fun _ _ => trivial) (by rw [List.length_map]; omega)).mono ?_
    rintro v w5 ⟨a3, c3, rfl, hx, ho, hfr⟩
    replace hS := hS.made hx ownL_local ho (fun g hg => hfr g (by simpa [ownL, own] using hg))
    clear hx ho hfr
    have hlen : (l.map (noteV x1 y1)).length = (l.map (noteV x2 y2)).length := by rw [List.length_map, List.length_map]
    have hy : Slc w5 5 encNV (fun _ => True) a2 (l.map (noteV x1 y1)).length (l.map (noteV x2 y2)) := by
      rw [hlen]
      exact ownL_slc codNote (hS.get 17 rfl) fun _ _ => trivial
    have hsame : SameN w5 (l.map (noteV x1 y1)) (l.map (noteV x2 y2)) := noteV_same hcells (ownL_slc codCell (hS.get 9 rfl) fun _ _ => trivial) (ownL_slc codCell (hS.get 18 rfl) fun _ _ => trivial)
    (conv => whnf)
    rw [← hlen]
    refine (sameNotes_ok (ownL_slc codNote (hS.get 20 rfl) fun _ _ => trivial) hy hsame).mono ?_
    rintro v w6 ⟨rfl, hx⟩
    replace hS := hS.no hx
    clear hx hy hsame
    have hS2 := hS.sel [0, 1, 2, 3, 4, 5, 6, 7, 10, 11, 12, 13, 14, 15, 16, 19] (by decide)
    (conv => whnf)
    refine RngC.mk (by omega) (by omega) ?_
    (conv => whnf)
    refine LoopE.mk ⟨_, [(20, .int .i64 ((i + 1 : Nat) : Int)), (9, _), (1, _), (0, _)], ?_, ⟨rfl, rfl, rfl, rfl, trivial⟩, ⟨i + 1, N3, R3, B3, rfl, rfl, by omega, hS2, hO3.mono (by omega), hB3, hA3, hR3.mono (by omega), hrl3⟩⟩
    omega
  · repeat' ((conv => whnf); first | refine RetC.mk ?_ | refine NzC.mk (by decide) ?_ | refine RngC.mk (by omega) (by omega) ?_ | refine IdxC.mk (by omega) (by omega) ?_ | refine brD (fun _ => ?_) (fun _ => ?_) | refine brND (fun _ => ?_) (fun _ => ?_) | refine brN (fun _ => ?_) (fun _ => ?_) | refine brI (fun _ => ?_) (fun _ => ?_))
    refine ⟨rfl, A, A', N2, R2, B2, rfl, rfl, rfl, rfl, (show St W No w1 ((nodeB A N2 B2 ++ rnodeH A' N2 R2) ++ _) from hS).weaken (List.sublist_append_left _ _), hO.mono (by omega), hB, hA, hR.mono (by omega), ?_⟩
    rw [hrl]
    exact hr
end
end Go.Proofs.YtakdekkieobbaaaGreatDoor

/-
  NodeActs returns true whatever its arguments.
-/
namespace Go.Proofs.YtakdekkieobbaaaGreatDoor
open Go Ev
section
variable {W w : World}
theorem actsFit_ok {a : Option Addr} {n c : Nat} {acts : List ActN} (hx : Slc w 14 encAN (ActN.Ok W) a n acts) :
    CallC Tryz.prog 5 #[.slice a n c] w fun v w' => ∃ b, v = .bool b ∧ (b = true → (∀ x ∈ acts, x.Fit) ∧ n ≤ 80) ∧ Ext No w w' := by
  have hl := hx.len
  have hmax := hx.max
  refine fn_intro tabOk Tryz.func5 (by kernel_rfl) rfl Tryz.ntmps5 (Nat.le_of_ble_eq_true rfl) ?_
  have hS := St.start w No
  (conv => whnf)
  refine loopR tabOk (fun σ w' q => ∃ (k : Nat) (t : Int), σ = [(4, .int .i64 k), (3, .int .i64 t), (0, .slice a n c)] ∧ q = n - k ∧ k ≤ n ∧ 0 ≤ t ∧ t ≤ 1000 ∧ (∀ x ∈ acts.take k, x.Fit) ∧ St w No w' [])
    (σ' := [(4, .int .i64 ((0 : Nat) : Int)), (3, .int .i64 0), (0, .slice a n c)]) (n := n) ⟨rfl, rfl, rfl, trivial⟩ ⟨0, 0, rfl, rfl, Nat.zero_le _, by decide, by decide, fun x hx => by simp at hx, hS⟩ ?_
  clear hS
  rintro _ w1 q ⟨k, t, rfl, rfl, hk, ht0, ht1, hfit, hS⟩
  (conv => whnf)
  refine brD (fun h3 => ?_) (fun h3 => ?_)
  · obtain ⟨b0, o0, x, hxk, _, rfl, hb0, hc⟩ := hx.at (k := k) (by omega)
    have hst : acts.take (k + 1) = acts.take k ++ [x] := by rw [List.take_add_one, hxk]; rfl
    (conv => whnf)
    refine IdxC.mk (by omega) (by omega) ?_
    (conv => whnf)
    refine hS.ldr (hc.one 12 (v := .slice x.x.a x.x.n x.x.c) rfl) id ?_
    (conv => whnf)
    refine brD (fun h4 => ?_) (fun h4 => ?_)
    · repeat' ((conv => whnf); first | refine RetC.mk ?_ | refine NzC.mk (by decide) ?_ | refine RngC.mk (by omega) (by omega) ?_ | refine IdxC.mk (by omega) (by omega) ?_ | refine brD (fun _ => ?_) (fun _ => ?_) | refine brND (fun _ => ?_) (fun _ => ?_) | refine brN (fun _ => ?_) (fun _ => ?_) | refine brI (fun _ => ?_) (fun _ => ?_))
      exact ⟨false, rfl, (fun h => by cases h), hS.ext⟩
    (conv => whnf)
    refine IdxC.mk (by omega) (by omega) ?_
    (conv => whnf)
    refine hS.ldr (hc.one 13 (v := .slice x.ra x.rn x.rc) rfl) id ?_
    (conv => whnf)
    refine brD (fun h5 => ?_) (fun h5 => ?_)
    · repeat' ((conv => whnf); first | refine RetC.mk ?_ | refine NzC.mk (by decide) ?_ | refine RngC.mk (by omega) (by omega) ?_ | refine IdxC.mk (by omega) (by omega) ?_ | refine brD (fun _ => ?_) (fun _ => ?_) | refine brND (fun _ => ?_) (fun _ => ?_) | refine brN (fun _ => ?_) (fun _ => ?_) | refine brI (fun _ => ?_) (fun _ => ?_))
      exact ⟨false, rfl, (fun h => by cases h), hS.ext⟩
    (conv => whnf)
    refine IdxC.mk (by omega) (by omega) ?_
    (conv => whnf)
    refine hS.ldr (hc.one 1 (v := .int .i64 x.n) rfl) id ?_
    (conv => whnf)
    refine brD (fun h6 => ?_) (fun h6 => ?_)
    · repeat' ((conv => whnf); first | refine RetC.mk ?_ | refine NzC.mk (by decide) ?_ | refine RngC.mk (by omega) (by omega) ?_ | refine IdxC.mk (by omega) (by omega) ?_ | refine brD (fun _ => ?_) (fun _ => ?_) | refine brND (fun _ => ?_) (fun _ => ?_) | refine brN (fun _ => ?_) (fun _ => ?_) | refine brI (fun _ => ?_) (fun _ => ?_))
      exact ⟨false, rfl, (fun h => by cases h), hS.ext⟩
    have hf : x.Fit := ⟨by omega, by omega, by omega⟩
    have hfit2 : ∀ y ∈ acts.take (k + 1), y.Fit := by
      rw [hst]
      intro y hy
      rcases List.mem_append.1 hy with hy | hy
      · exact hfit y hy
      · obtain rfl := List.mem_singleton.1 hy
        exact hf
    (conv => whnf)
    refine IdxC.mk (by omega) (by omega) ?_
    (conv => whnf)
    refine hS.ldr (hc.one 0 (v := .string x.kind) rfl) id ?_
    (conv => whnf)
    refine eqStr ?_
    (conv => whnf)
    generalize decide (x.kind = _) = d
    cases d
    · (conv => whnf)
      refine brD (fun h8 => absurd h8 (by omega)) (fun _ => ?_)
      (conv => whnf)
      refine RngC.mk (by omega) (by omega) ?_
      (conv => whnf)
      refine LoopE.mk ⟨_, [(4, .int .i64 ((k + 1 : Nat) : Int)), (3, _), (0, _)], ?_, ⟨rfl, rfl, rfl, trivial⟩, ⟨k + 1, t, rfl, rfl, by omega, ht0, ht1, hfit2, hS⟩⟩
      omega
    · (conv => whnf)
      refine IdxC.mk (by omega) (by omega) ?_
      (conv => whnf)
      refine hS.ldr (hc.one 1 (v := .int .i64 x.n) rfl) id ?_
      (conv => whnf)
      refine brD (fun h7 => ?_) (fun h7 => ?_)
      · (conv => whnf)
        refine IdxC.mk (by omega) (by omega) ?_
        (conv => whnf)
        refine hS.ldr (hc.one 1 (v := .int .i64 x.n) rfl) id ?_
        (conv => whnf)
        refine RngC.mk (by omega) (by omega) ?_
        (conv => whnf)
        refine brD (fun h8 => ?_) (fun h8 => ?_)
        · repeat' ((conv => whnf); first | refine RetC.mk ?_ | refine NzC.mk (by decide) ?_ | refine RngC.mk (by omega) (by omega) ?_ | refine IdxC.mk (by omega) (by omega) ?_ | refine brD (fun _ => ?_) (fun _ => ?_) | refine brND (fun _ => ?_) (fun _ => ?_) | refine brN (fun _ => ?_) (fun _ => ?_) | refine brI (fun _ => ?_) (fun _ => ?_))
          exact ⟨false, rfl, (fun h => by cases h), hS.ext⟩
        (conv => whnf)
        refine RngC.mk (by omega) (by omega) ?_
        (conv => whnf)
        refine LoopE.mk ⟨_, [(4, .int .i64 ((k + 1 : Nat) : Int)), (3, _), (0, _)], ?_, ⟨rfl, rfl, rfl, trivial⟩, ⟨k + 1, t + x.n, rfl, rfl, by omega, by omega, by omega, hfit2, hS⟩⟩
        omega
      · (conv => whnf)
        refine brD (fun h8 => absurd h8 (by omega)) (fun _ => ?_)
        (conv => whnf)
        refine RngC.mk (by omega) (by omega) ?_
        (conv => whnf)
        refine LoopE.mk ⟨_, [(4, .int .i64 ((k + 1 : Nat) : Int)), (3, _), (0, _)], ?_, ⟨rfl, rfl, rfl, trivial⟩, ⟨k + 1, t, rfl, rfl, by omega, ht0, ht1, hfit2, hS⟩⟩
        omega
  · obtain rfl : k = n := by omega
    rw [List.take_of_length_le (by omega)] at hfit
    repeat' ((conv => whnf); first | refine RetC.mk ?_ | refine NzC.mk (by decide) ?_ | refine RngC.mk (by omega) (by omega) ?_ | refine IdxC.mk (by omega) (by omega) ?_ | refine brD (fun _ => ?_) (fun _ => ?_) | refine brND (fun _ => ?_) (fun _ => ?_) | refine brN (fun _ => ?_) (fun _ => ?_) | refine brI (fun _ => ?_) (fun _ => ?_))
    exact ⟨_, rfl, fun h => ⟨hfit, by have := of_decide_eq_true h; omega⟩, hS.ext⟩
theorem newN_code (id : Int) (B : BytS) (xs : List RuleS) : (newN id B xs).1 < 12 := nput_code _ _ _ _
theorem nodeActs_ok {E : Nat → Addr} (W : World) (hE : Errs W E W.heap.size allErrs) (hh : Handle W) (id : Int) (s : List UInt8) (a0 : Option Addr) (n0 c0 : Nat) (rules : List RuleS) (hr : Slc W 5 encRule (fun _ => True) a0 n0 rules) (a1 : Option Addr) (n1 c1 : Nat) (acts : List ActN) (hx : Slc W 14 encAN (ActN.Ok W) a1 n1 acts) :
    CallC Tryz.prog 3 #[.int .i64 id, .string (bs s), .slice a0 n0 c0, .slice a1 n1 c1] W fun v w' => v = .bool true ∧ Ext No W w' := by
  obtain rfl := hr.len
  have hl1 := hx.len
  have hm1 := hx.max
  refine fn_intro tabOk Tryz.func3 (by kernel_rfl) rfl Tryz.ntmps3 (Nat.le_of_ble_eq_true rfl) ?_
  have hS := St.start W No
  (conv => whnf)
  refine (wakes_ok W hE (Nat.le_refl _)).mono ?_
  rintro v w' ⟨rfl, hx'⟩
  replace hS := hS.no hx'
  clear hx'
  (conv => whnf)
  rw [bs_size]
  refine brND (fun h1 => ?_) (fun h1 => ?_)
  · repeat' ((conv => whnf); first | refine RetC.mk ?_ | refine NzC.mk (by decide) ?_ | refine RngC.mk (by omega) (by omega) ?_ | refine IdxC.mk (by omega) (by omega) ?_ | refine brD (fun _ => ?_) (fun _ => ?_) | refine brND (fun _ => ?_) (fun _ => ?_) | refine brN (fun _ => ?_) (fun _ => ?_) | refine brI (fun _ => ?_) (fun _ => ?_))
    exact ⟨rfl, hS.ext⟩
  have h64 : s.length = 64 := by omega
  (conv => whnf)
  refine brD (fun h2 => ?_) (fun h2 => ?_)
  · repeat' ((conv => whnf); first | refine RetC.mk ?_ | refine NzC.mk (by decide) ?_ | refine RngC.mk (by omega) (by omega) ?_ | refine IdxC.mk (by omega) (by omega) ?_ | refine brD (fun _ => ?_) (fun _ => ?_) | refine brND (fun _ => ?_) (fun _ => ?_) | refine brN (fun _ => ?_) (fun _ => ?_) | refine brI (fun _ => ?_) (fun _ => ?_))
    exact ⟨rfl, hS.ext⟩
  (conv => whnf)
  refine (actsFit_ok (hx.no hS.ext)).mono ?_
  rintro v w' ⟨fit, rfl, hfit, hx'⟩
  replace hS := hS.no hx'
  clear hx'
  cases fit
  · repeat' ((conv => whnf); first | refine RetC.mk ?_ | refine NzC.mk (by decide) ?_ | refine RngC.mk (by omega) (by omega) ?_ | refine IdxC.mk (by omega) (by omega) ?_ | refine brD (fun _ => ?_) (fun _ => ?_) | refine brND (fun _ => ?_) (fun _ => ?_) | refine brN (fun _ => ?_) (fun _ => ?_) | refine brI (fun _ => ?_) (fun _ => ?_))
    exact ⟨rfl, hS.ext⟩
  obtain ⟨hfit, h80⟩ := hfit rfl
  (conv => whnf)
  refine (newBytes_ok _).mono ?_
  rintro v w' ⟨b, rfl, hb, hx', hB⟩
  replace hS := hS.made hx' (blk_local _ _ _) hB (by simp [blk]; exact ⟨hb, hB.lt⟩)
  have fb := hS.fresh 0 rfl
  clear hx' hB hb
  (conv => whnf)
  refine (blay_ok s (hS.blk 0 rfl) (by simp [by0]) ((hE.sub rfl).ext hS.ext fun _ h => h.elim) fb).mono ?_
  rw [if_pos h64, if_pos h64]
  rintro v w' ⟨rfl, hx', hB⟩
  replace hS := hS.upd 0 rfl hx' (fun c hc => by subst hc; exact List.mem_singleton.2 rfl) (blk_local _ _ _) hB (fun c hc => .inl hc)
  clear hx' hB
  have hB0 : BOk ⟨s, by0.off, by0.left⟩ := ⟨h64, by show (-1 : Int) ≤ -1; decide, by show (-1 : Int) ≤ 9223372036854775807; decide⟩
  have hA0 : Alike ⟨s, false, 0, false⟩ ⟨s, by0.off, by0.left⟩ := ⟨rfl, rfl, fun h => absurd h (by simp), fun _ => rfl⟩
  have hR0 : ROk ⟨s, false, 0, false⟩ 0 := ⟨h64, fun h => absurd h (by simp), by simp, by show (0 : Int) ≤ 9223372036854775807; decide⟩
  (conv => whnf)
  refine (ownRules_ok (hr.no hS.ext) (by omega)).mono ?_
  rintro v w' ⟨ra, rc, rfl, hx', ho, hfr⟩
  replace hS := hS.made hx' ownL_local ho (fun g hg => hfr g (by simpa [ownL, own] using hg))
  clear hx' ho hfr
  have hslc := ownL_slc (G := fun _ => True) codRule (hS.get 1 rfl) fun _ _ => trivial
  (conv => whnf)
  by_cases hid : id = 0 ∨ id = 1
  case neg =>
    refine (nnew_id id _ _ hid (hE.ext hS.ext fun _ h => h.elim)).mono ?_
    rintro v w' ⟨rfl, hx'⟩
    replace hS := hS.no hx'
    clear hx' hslc
    (conv => whnf)
    refine brD (fun h3 => ?_) (fun h3 => ?_)
    · (conv => whnf)
      refine (coded2_same 2 (by decide) _ (hE.ext hS.ext fun _ h => h.elim) (hh.ext hS.ext)).mono ?_
      rintro v w' ⟨rfl, hx'⟩
      replace hS := hS.no hx'
      repeat' ((conv => whnf); first | refine RetC.mk ?_ | refine NzC.mk (by decide) ?_ | refine RngC.mk (by omega) (by omega) ?_ | refine IdxC.mk (by omega) (by omega) ?_ | refine brD (fun _ => ?_) (fun _ => ?_) | refine brND (fun _ => ?_) (fun _ => ?_) | refine brN (fun _ => ?_) (fun _ => ?_) | refine brI (fun _ => ?_) (fun _ => ?_))
      exact ⟨rfl, hS.ext⟩
    (conv => whnf)
    refine brD (fun h4 => ?_) (fun h4 => absurd (by omega) hid)
    (conv => whnf)
    refine (coded2_same 2 (by decide) _ (hE.ext hS.ext fun _ h => h.elim) (hh.ext hS.ext)).mono ?_
    rintro v w' ⟨rfl, hx'⟩
    replace hS := hS.no hx'
    repeat' ((conv => whnf); first | refine RetC.mk ?_ | refine NzC.mk (by decide) ?_ | refine RngC.mk (by omega) (by omega) ?_ | refine IdxC.mk (by omega) (by omega) ?_ | refine brD (fun _ => ?_) (fun _ => ?_) | refine brND (fun _ => ?_) (fun _ => ?_) | refine brN (fun _ => ?_) (fun _ => ?_) | refine brI (fun _ => ?_) (fun _ => ?_))
    exact ⟨rfl, hS.ext⟩
  have hcd := fault_code rules
  by_cases h0 : (faultL rules).1 = 0
  case neg =>
    refine (nnew_rules id _ hid hslc h0 (hE.ext hS.ext fun _ h => h.elim)).mono ?_
    rintro v w' ⟨⟨e, rfl, hF⟩, hx'⟩
    replace hS := hS.fault hx' hF
    clear hx' hF hslc
    (conv => whnf)
    refine brD (fun h3 => absurd h3 (by omega)) (fun h3 => ?_)
    (conv => whnf)
    refine brD (fun h4 => absurd h4 (by omega)) (fun h4 => ?_)
    (conv => whnf)
    refine (rulesFault_ok (hr.no hS.ext)).mono ?_
    rintro v w2 ⟨rfl, hx⟩
    replace hS := hS.no hx
    clear hx
    (conv => whnf)
    refine hS.new (fun bf w' hbf hS => ?_)
    (conv => whnf)
    refine hS.st 3 rfl (Nat.le_of_ble_eq_true rfl) rfl (fun w' hS => ?_)
    (conv => whnf)
    refine hS.ld 3 rfl rfl ?_
    (conv => whnf)
    refine brD (fun h5 => ?_) (fun h5 => absurd (show ((faultL rules).1 : Int) > 0 by omega) h5)
    (conv => whnf)
    refine hS.laX 3 rfl rfl ?_
    obtain ⟨w0, hfe⟩ := hS.get 2 rfl
    (conv => whnf)
    refine (faulted2_ok hfe (by omega) (by omega) (hE.ext hS.ext fun _ h => h.elim) (hh.ext hS.ext)).mono ?_
    rintro v w' ⟨rfl, hx'⟩
    replace hS := hS.no hx'
    repeat' ((conv => whnf); first | refine RetC.mk ?_ | refine NzC.mk (by decide) ?_ | refine RngC.mk (by omega) (by omega) ?_ | refine IdxC.mk (by omega) (by omega) ?_ | refine brD (fun _ => ?_) (fun _ => ?_) | refine brND (fun _ => ?_) (fun _ => ?_) | refine brN (fun _ => ?_) (fun _ => ?_) | refine brI (fun _ => ?_) (fun _ => ?_))
    exact ⟨rfl, hS.ext⟩
  have hnk := newN_ok (id := id) (B := ⟨s, by0.off, by0.left⟩) (xs := rules) hid hB0 h0
  refine (nnew_ok id hid hslc (by omega) h0 (fun _ => hS.ownNe 0 1 rfl rfl (by decide)) (hS.blk 0 rfl) hB0 rfl (hE.ext hS.ext fun _ h => h.elim) fb).mono ?_
  rintro v w' (⟨he, A, hAb, rfl, ht⟩ | ⟨he, rfl, hx', hB⟩)
  case inr =>
    replace hS := hS.upd 0 rfl hx' (fun c hc => by subst hc; exact List.mem_singleton.2 rfl) (blk_local _ _ _) hB (fun c hc => .inl hc)
    clear hx' hB hslc hnk
    (conv => whnf)
    refine brD (fun h3 => absurd h3 (by omega)) (fun h3 => ?_)
    (conv => whnf)
    refine brD (fun h4 => absurd h4 (by omega)) (fun h4 => ?_)
    (conv => whnf)
    refine (rulesFault_ok (hr.no hS.ext)).mono ?_
    rintro v w2 ⟨rfl, hx⟩
    replace hS := hS.no hx
    clear hx
    (conv => whnf)
    refine hS.new (fun bf w' hbf hS => ?_)
    (conv => whnf)
    refine hS.st 2 rfl (Nat.le_of_ble_eq_true rfl) rfl (fun w' hS => ?_)
    (conv => whnf)
    refine hS.ld 2 rfl rfl ?_
    (conv => whnf)
    refine brD (fun h5 => absurd h5 (by omega)) (fun h5 => ?_)
    (conv => whnf)
    refine hS.new (fun rb w' hrb hS => ?_)
    (conv => whnf)
    refine (rnew_ok (B := ⟨s, by0.off, by0.left⟩) id hid (show Blk w' rb 42 (encRB ⟨s, false, 0, false⟩) from hS.blk 3 rfl) hA0 hB0 hR0 (by decide)).mono ?_
    rintro v w' ⟨R', hA', hR', (⟨he2, _⟩ | ⟨_, rfl, hx', hB⟩)⟩
    · exact absurd he2 he
    replace hS := hS.upd 3 rfl hx' (fun c hc => by subst hc; exact List.mem_singleton.2 rfl) (blk_local _ _ _) hB (fun c hc => .inl hc)
    have hk12 := newN_code id ⟨s, by0.off, by0.left⟩ rules
    generalize (newN id ⟨s, by0.off, by0.left⟩ rules).1 = e at he hk12 ⊢
    obtain ⟨j, rfl⟩ : ∃ j, e = j + 1 := ⟨e - 1, by omega⟩
    (conv => whnf)
    refine brD (fun h5 => ?_) (fun h5 => absurd (show ((j + 1 : Nat) : Int) > 0 by omega) h5)
    (conv => whnf)
    refine (coded2_same (j + 1) hk12 _ (hE.ext hS.ext fun _ h => h.elim) (hh.ext hS.ext)).mono ?_
    rintro v w' ⟨rfl, hx'⟩
    replace hS := hS.no hx'
    repeat' ((conv => whnf); first | refine RetC.mk ?_ | refine NzC.mk (by decide) ?_ | refine RngC.mk (by omega) (by omega) ?_ | refine IdxC.mk (by omega) (by omega) ?_ | refine brD (fun _ => ?_) (fun _ => ?_) | refine brND (fun _ => ?_) (fun _ => ?_) | refine brN (fun _ => ?_) (fun _ => ?_) | refine brI (fun _ => ?_) (fun _ => ?_))
    exact ⟨rfl, hS.ext⟩
  replace hS := (St.call (H := [blk b 72 (encBy ⟨s, by0.off, by0.left⟩)]) (B := [ownL 85 5 encRule (.slice ra rules.length rc) rules]) hS ht).keep 8
  clear ht hslc
  obtain ⟨hnb, hno⟩ := hnk
  replace hno := hno he
  (conv => whnf)
  refine brD (fun h3 => absurd h3 (by omega)) (fun h3 => ?_)
  (conv => whnf)
  refine brD (fun h4 => absurd h4 (by omega)) (fun h4 => ?_)
  (conv => whnf)
  refine (rulesFault_ok (hr.no hS.ext)).mono ?_
  rintro v w2 ⟨rfl, hx⟩
  replace hS := hS.no hx
  clear hx
  (conv => whnf)
  refine hS.new (fun bf w' hbf hS => ?_)
  (conv => whnf)
  refine hS.st 8 rfl (Nat.le_of_ble_eq_true rfl) rfl (fun w' hS => ?_)
  (conv => whnf)
  refine hS.ld 8 rfl rfl ?_
  (conv => whnf)
  refine brD (fun h5 => absurd h5 (by omega)) (fun h5 => ?_)
  (conv => whnf)
  refine hS.new (fun rb w' hrb hS => ?_)
  (conv => whnf)
  refine (rnew_ok (B := ⟨s, by0.off, by0.left⟩) id hid (show Blk w' rb 42 (encRB ⟨s, false, 0, false⟩) from hS.blk 9 rfl) hA0 hB0 hR0 (by decide)).mono ?_
  rintro v w' ⟨R', hA', hR', (⟨_, A', hAb', hra, hrc, rfl, ht⟩ | ⟨he2, _⟩)⟩
  case inr => exact absurd he he2
  have hnr : (newN id ⟨s, by0.off, by0.left⟩ rules).2.1.rules = rules := rfl
  generalize (newN id ⟨s, by0.off, by0.left⟩ rules).2 = T at hS ht hA' hnb hno hnr
  obtain ⟨N1, B1⟩ := T
  dsimp only at hS ht hA' hnb hno hnr
  replace hS := hS.sel [0, 1, 2, 3, 4, 5, 6, 7, 9] (by decide)
  replace hS := St.callAt (A := nodeB A N1 B1) (H := [blk rb 42 (encRB ⟨s, false, 0, false⟩)]) (B := []) hS ht
  have hside : Side W w' 0 18 A A' N1 R' B1 := ⟨by rw [List.append_nil] at hS; exact hS, hno, hnb, hA', hR', by rw [hra, hnr]; exact hr⟩
  clear hS ht hA' hnb hno hnr hR' hra hrc hB0 hA0 hR0 hcd h5
  have hpn : ∃ pn pb pn' : Nat, A.n = pn ∧ A.b = b ∧ A'.n = pn' ∧ A'.b = rb := ⟨_, b, _, rfl, hAb, rfl, hAb'⟩
  obtain ⟨pn, _, pn', e1, e2, e3, e4⟩ := hpn
  rw [e1, e3]
  (conv => whnf)
  refine loopR tabOk (fun σ w' q => ∃ (i : Nat) (A2 : NodeA) (A2' : RNodeA) (N2 : NodeS) (R2 : RBy) (B2 : BytS), σ = [(17, .int .i64 i), (15, .pointer (some ⟨pn', 0, none⟩)), (14, .pointer (some ⟨rb, 0, none⟩)), (11, .pointer (some ⟨pn, 0, none⟩)), (10, .pointer (some ⟨b, 0, none⟩)), (3, .slice a1 n1 c1)] ∧ q = n1 - i ∧ i ≤ n1 ∧ A2.n = pn ∧ A2.b = b ∧ A2'.n = pn' ∧ A2'.b = rb ∧ Side W w' (34000 * i) (18 + 18000 * i) A2 A2' N2 R2 B2)
    (σ' := [(17, .int .i64 ((0 : Nat) : Int)), (15, .pointer (some ⟨pn', 0, none⟩)), (14, .pointer (some ⟨rb, 0, none⟩)), (11, .pointer (some ⟨pn, 0, none⟩)), (10, .pointer (some ⟨b, 0, none⟩)), (3, .slice a1 n1 c1)]) (n := n1) ⟨rfl, rfl, rfl, rfl, rfl, rfl, trivial⟩ ⟨0, A, A', N1, R', B1, rfl, rfl, Nat.zero_le _, e1, e2, e3, e4, hside⟩ ?_
  clear hside e1 e2 e3 e4 hAb hAb' he fb hrb
  rintro _ w1 q ⟨i, A2, A2', N2, R2, B2, rfl, rfl, hi, rfl, rfl, rfl, rfl, hside⟩
  (conv => whnf)
  refine brD (fun h6 => ?_) (fun h6 => ?_)
  · obtain ⟨b0, o0, x, hxk, hok, rfl, hb0, hc⟩ := hx.at (k := i) (by omega)
    (conv => whnf)
    refine IdxC.mk (by omega) (by omega) ?_
    (conv => whnf)
    refine hside.st.lar (l := encAN x) rfl hc (fun h => h) ?_
    (conv => whnf)
    refine (act_ok x hside (by omega) (by omega) hok (hfit x (List.mem_of_getElem? hxk)) hE hh).mono ?_
    rintro v w2 ⟨rfl, A3, A3', N3, R3, B3, e1, e2, e3, e4, hs3⟩
    rw [← e1, ← e2, ← e3, ← e4]
    clear hside e1 e2 e3 e4
    have hS := hs3.st
    (conv => whnf)
    (refine drawS tabOk mixed [] (No) [0, 1, 2, 3, 4, 5, 6, 7, 8, 9, 11, 12, 13, 14, 10, 15, 16] (by kernel_rfl) ?_; rintro w1 rfl; replace hS := hS.drew)
    have hK := hS.ref No
    (conv => whnf)
    refine (asNode_ok hS hs3.ok).mono ?_
    rintro v w3 ⟨rfl, hx3⟩
    have h3S := hS
    replace hS := hS.no hx3
    replace hK := hK.trans hx3
    refine KeepC.mk hK ?_
    repeat' ((conv => whnf); first | refine h3S.ldF 14 rfl (v := .string (bs R3.data)) rfl (fun h => h) ?_ | refine brND (fun h => absurd rfl h) (fun _ => ?_))
    refine (ball_ok (hS.blk 7 rfl) hs3.bok.len).mono ?_
    rintro v w4 ⟨rfl, hx4⟩
    replace hS := hS.no hx4
    replace hK := hK.trans hx4
    refine KeepC.mk hK ?_
    rw [hs3.ali.data]
    (conv => whnf)
    refine neS2 ?_
    rw [decide_eq_true rfl]
    (conv => whnf)
    refine RngC.mk (by omega) (by omega) ?_
    (conv => whnf)
    refine LoopE.mk ⟨_, [(17, .int .i64 ((i + 1 : Nat) : Int)), (15, _), (14, _), (11, _), (10, _), (3, _)], ?_, ⟨rfl, rfl, rfl, rfl, rfl, rfl, trivial⟩, ⟨i + 1, A3, A3', N3, R3, B3, rfl, rfl, by omega, rfl, rfl, rfl, rfl, ⟨hS, hs3.ok.mono (by omega), hs3.bok, hs3.ali, hs3.rok.mono (by omega), hs3.rul⟩⟩⟩
    omega
  · repeat' ((conv => whnf); first | refine RetC.mk ?_ | refine NzC.mk (by decide) ?_ | refine RngC.mk (by omega) (by omega) ?_ | refine IdxC.mk (by omega) (by omega) ?_ | refine brD (fun _ => ?_) (fun _ => ?_) | refine brND (fun _ => ?_) (fun _ => ?_) | refine brN (fun _ => ?_) (fun _ => ?_) | refine brI (fun _ => ?_) (fun _ => ?_))
    exact ⟨rfl, hside.st.ext⟩

/-! ### The arguments -/
theorem shp_str {e d : Nat} {t : TypeId} {v : Value} (he : e = d + 1) (hu : Tryz.prog.underlying t = some .string) (h : Shp Tryz.prog w e t [v]) : ∃ s, v = .string s := by
  subst he
  unfold Shp at h
  rw [hu] at h
  obtain ⟨s, h, _⟩ := h
  simp only [List.cons.injEq, and_true] at h
  exact ⟨s, h⟩
theorem len14 {α : Type} {l : List α} (h : l.length = 14) : ∃ a b c d e f g i j k m n o p, l = [a, b, c, d, e, f, g, i, j, k, m, n, o, p] := by
  match l, h with
  | [a, b, c, d, e, f, g, i, j, k, m, n, o, p], _ => exact ⟨a, b, c, d, e, f, g, i, j, k, m, n, o, p, rfl⟩
theorem dec_ruleT {d : Nat} (hd : 10 ≤ d) : Dec Tryz.prog w d 85 encRule (fun _ => True) := by
  intro cs h
  have h1 : flatK Tryz.prog 10 85 = some [.bool, .bool, .int, .int, .int] := by kernel_rfl
  have h2 : Tryz.prog.cellsOf 85 = 5 := by kernel_rfl
  obtain ⟨ps, rfl, hk, hok⟩ := shp_flat 10 d _ _ cs h1 hd h2 h
  obtain ⟨p1, r, rfl, g1, hk⟩ := kinds_cons hk
  obtain ⟨p2, r, rfl, g2, hk⟩ := kinds_cons hk
  obtain ⟨p3, r, rfl, g3, hk⟩ := kinds_cons hk
  obtain ⟨p4, r, rfl, g4, hk⟩ := kinds_cons hk
  obtain ⟨p5, r, rfl, g5, hk⟩ := kinds_cons hk
  obtain rfl := kinds_nil hk
  obtain ⟨n1, rfl⟩ := k_bool g1
  obtain ⟨n2, rfl⟩ := k_bool g2
  obtain ⟨n3, rfl⟩ := k_int g3
  obtain ⟨n4, rfl⟩ := k_int g4
  obtain ⟨n5, rfl⟩ := k_int g5
  exact ⟨⟨n1, n2, n3, n4, n5⟩, rfl, trivial⟩
theorem dec_cellT {d : Nat} (hd : 10 ≤ d) : Dec Tryz.prog w d 135 encCell (fun _ => True) := fun cs h => by
  obtain ⟨x, hx, _⟩ := dec_cell hd cs h
  exact ⟨x, hx, trivial⟩
theorem dec_pktT {d : Nat} (hd : 10 ≤ d) : Dec Tryz.prog w d 50 encPkt (fun _ => True) := by
  intro cs h
  have h1 : flatK Tryz.prog 10 50 = some [.int, .int, .int, .int, .int, .int] := by kernel_rfl
  have h2 : Tryz.prog.cellsOf 50 = 6 := by kernel_rfl
  obtain ⟨ps, rfl, hk, hok⟩ := shp_flat 10 d _ _ cs h1 hd h2 h
  obtain ⟨p1, r, rfl, g1, hk⟩ := kinds_cons hk
  obtain ⟨p2, r, rfl, g2, hk⟩ := kinds_cons hk
  obtain ⟨p3, r, rfl, g3, hk⟩ := kinds_cons hk
  obtain ⟨p4, r, rfl, g4, hk⟩ := kinds_cons hk
  obtain ⟨p5, r, rfl, g5, hk⟩ := kinds_cons hk
  obtain ⟨p6, r, rfl, g6, hk⟩ := kinds_cons hk
  obtain rfl := kinds_nil hk
  obtain ⟨n1, rfl⟩ := k_int g1
  obtain ⟨n2, rfl⟩ := k_int g2
  obtain ⟨n3, rfl⟩ := k_int g3
  obtain ⟨n4, rfl⟩ := k_int g4
  obtain ⟨n5, rfl⟩ := k_int g5
  obtain ⟨n6, rfl⟩ := k_int g6
  exact ⟨⟨n1, n2, n3, n4, n5, n6⟩, rfl, trivial⟩
theorem shp_boolT {e d : Nat} {t : TypeId} {v : Value} (he : e = d + 1) (hu : Tryz.prog.underlying t = some .bool) (h : Shp Tryz.prog w e t [v]) : ∃ s, v = .bool s := by
  subst he
  unfold Shp at h
  rw [hu] at h
  obtain ⟨s, h⟩ := h
  simp only [List.cons.injEq, and_true] at h
  exact ⟨s, h⟩
theorem dec_actN {W : World} {c d e f : Nat} (hc : 10 ≤ c) (hd : d = c + 1) (he : e = d + 1) (hf : f = e + 1) : Dec Tryz.prog W f 55 encAN (ActN.Ok W) := by
  intro cs h
  obtain ⟨hl, hff⟩ := shp_struct hf Tryz.underlying55 h
  have hl2 : cs.length = 14 := hl.trans (by kernel_rfl)
  clear hl h
  have c0 : Tryz.prog.cellsOf 9 = 1 := by kernel_rfl
  have c1 : Tryz.prog.cellsOf 3 = 1 := by kernel_rfl
  have c2 : Tryz.prog.cellsOf 50 = 6 := by kernel_rfl
  have c3 : Tryz.prog.cellsOf 53 = 5 := by kernel_rfl
  have c4 : Tryz.prog.cellsOf 22 = 1 := by kernel_rfl
  have c5 : Tryz.prog.cellsOf 51 = 1 := by kernel_rfl
  have c6 : Tryz.prog.cellsOf 4 = 1 := by kernel_rfl
  have h0 : Shp Tryz.prog W e 9 ((cs.drop 0).take (Tryz.prog.cellsOf 9)) := hff 0 _ rfl
  have h1 : Shp Tryz.prog W e 3 ((cs.drop 1).take (Tryz.prog.cellsOf 3)) := hff 1 _ rfl
  have h2 : Shp Tryz.prog W e 50 ((cs.drop 2).take (Tryz.prog.cellsOf 50)) := hff 2 _ rfl
  have h3 : Shp Tryz.prog W e 53 ((cs.drop 8).take (Tryz.prog.cellsOf 53)) := hff 3 _ rfl
  have h4 : Shp Tryz.prog W e 22 ((cs.drop 13).take (Tryz.prog.cellsOf 22)) := hff 4 _ rfl
  clear hff
  rw [c0] at h0
  rw [c1] at h1
  rw [c2] at h2
  rw [c3] at h3
  rw [c4] at h4
  obtain ⟨x0, x1, x2, x3, x4, x5, x6, x7, x8, x9, x10, x11, x12, x13, rfl⟩ := len14 hl2
  simp only [List.drop_zero, List.drop_succ_cons, List.take_succ_cons, List.take_zero] at h0 h1 h2 h3 h4
  obtain ⟨_, hff⟩ := shp_struct he Tryz.underlying53 h3
  have g0 : Shp Tryz.prog W d 3 (([x8, x9, x10, x11, x12].drop 0).take (Tryz.prog.cellsOf 3)) := hff 0 _ rfl
  have g1 : Shp Tryz.prog W d 3 (([x8, x9, x10, x11, x12].drop 1).take (Tryz.prog.cellsOf 3)) := hff 1 _ rfl
  have g2 : Shp Tryz.prog W d 3 (([x8, x9, x10, x11, x12].drop 2).take (Tryz.prog.cellsOf 3)) := hff 2 _ rfl
  have g3 : Shp Tryz.prog W d 4 (([x8, x9, x10, x11, x12].drop 3).take (Tryz.prog.cellsOf 4)) := hff 3 _ rfl
  have g4 : Shp Tryz.prog W d 51 (([x8, x9, x10, x11, x12].drop 4).take (Tryz.prog.cellsOf 51)) := hff 4 _ rfl
  clear hff h3
  rw [c1] at g0 g1 g2
  rw [c6] at g3
  rw [c5] at g4
  simp only [List.drop_zero, List.drop_succ_cons, List.take_succ_cons, List.take_zero] at g0 g1 g2 g3 g4
  obtain ⟨kind, rfl⟩ := shp_str he Tryz.underlying9 h0
  obtain ⟨n, hn, hnI⟩ := shp_int he Tryz.underlying3 h1
  obtain ⟨p, hp, _⟩ := dec_pktT (by omega) _ h2
  obtain ⟨f0, hf0, _⟩ := shp_int hd Tryz.underlying3 g0
  obtain ⟨f1, hf1, _⟩ := shp_int hd Tryz.underlying3 g1
  obtain ⟨f2, hf2, _⟩ := shp_int hd Tryz.underlying3 g2
  obtain ⟨f3, rfl⟩ := shp_boolT hd Tryz.underlying4 g3
  obtain ⟨xa, xn, xc, rfl⟩ := shp_slice hd Tryz.underlying51 g4
  obtain ⟨cl, hcl, _⟩ := shp_slc (sz := 10) hd Tryz.underlying51 (by kernel_rfl) (by decide) (dec_cellT hc) g4
  obtain ⟨ra, rn, rc, rfl⟩ := shp_slice he Tryz.underlying22 h4
  obtain ⟨rl, hrl, _⟩ := shp_slc (sz := 5) he Tryz.underlying22 (by kernel_rfl) (by decide) (dec_ruleT (by omega)) h4
  simp only [List.cons.injEq, and_true] at hn hf0 hf1 hf2
  subst hn hf0 hf1 hf2
  refine ⟨⟨kind, n, p, ⟨f0, f1, f2, f3, xa, xn, xc⟩, cl, ra, rn, rc, rl⟩, ?_, hcl, hrl, hnI⟩
  unfold encAN
  dsimp only
  rw [← hp]
  rfl
end
theorem nodeActs_walk {E : Nat → Addr} (W : World) (args : List Value) (hE : Errs W E W.heap.size allErrs) (hh : Handle W) (ha : ArgsOk Tryz.prog W [3, 9, 22, 23] args) :
    CallC Tryz.prog 3 args.toArray W fun v w' => v = .bool true ∧ Ext No W w' := by
  obtain ⟨v0, args, rfl, h0, ha⟩ := ha.cons
  obtain ⟨v1, args, rfl, h1, ha⟩ := ha.cons
  obtain ⟨v2, args, rfl, h2, ha⟩ := ha.cons
  obtain ⟨v3, args, rfl, h3, ha⟩ := ha.cons
  obtain rfl := ha.nil
  obtain ⟨c, hc⟩ : ∃ c, 10 ≤ c := ⟨10, Nat.le_refl _⟩
  obtain ⟨d, hd⟩ : ∃ d, d = c + 1 := ⟨_, rfl⟩
  obtain ⟨e, he⟩ : ∃ e, e = d + 1 := ⟨_, rfl⟩
  obtain ⟨f, hf⟩ : ∃ f, f = e + 1 := ⟨_, rfl⟩
  obtain ⟨id, rfl, _⟩ := arg_int Tryz.underlying3 h0
  obtain ⟨s, rfl⟩ := arg_str Tryz.underlying9 h1
  obtain ⟨s, rfl⟩ := bs_of s
  obtain ⟨a0, n0, c0, xs, rfl, hx, _⟩ := arg_slice (d := c) (sz := 5) Tryz.underlying22 (by kernel_rfl) (by decide) (dec_ruleT hc) h2
  obtain ⟨a1, n1, c1, ys, rfl, hy, _⟩ := arg_slice (d := f) (sz := 14) Tryz.underlying23 (by kernel_rfl) (by decide) (dec_actN hc hd he hf) h3
  exact nodeActs_ok W hE hh id s a0 n0 c0 xs hx a1 n1 c1 ys hy
end Go.Proofs.YtakdekkieobbaaaGreatDoor
