/-
  Texts of this claim, joined: NotesB, LivesS, WorldS, WorldH, WorldA, WorldB, WorldC, WorldD, WorldE, NoteC, LoopB, Wakes.
-/
import Derived.Test.YtoaghhcjlfiflaaGreatDoorWorldStepsF

namespace Go.Proofs.YtoaghhcjlfiflaaGreatDoor
open Go Ev
section
variable {w : World}
theorem Ev.Blk.shape {b : Nat} {t : TypeId} {cs : List Value} (h : Blk w b t cs) : w.shape? b = some (t, cs.length) := by
  unfold Blk at h
  simp [World.shape?, h]
theorem x_overlaps {g b o o' n c n' c' : Nat} {t1 t2 : TypeId} {cs1 cs2 : List Value} (hb : Blk w b t1 cs1) (hg : Blk w g t2 cs2) (hne : b ≠ g) (hp : cs2.length ≠ 0) :
    (callFunc 142 #[.slice (some ⟨b, o, none⟩) n c, .slice (some ⟨g, o', none⟩) n' c']).run Tryz.prog w = .ok (.value (.bool false)) w := by
  have hz : ∀ w, (Go.sizeOf 107).run Tryz.prog w = .ok 5 w := fun w => (tabOk 107 _ rfl).size_run w
  rw [run_callFunc_extern Tryz.func142 (by kernel_rfl) (by kernel_rfl) (by kernel_rfl) (e := Extern.SlicesOverlaps.overlaps #[81, 81] #[4]) (by kernel_rfl),
    Lib.run_overlaps_apart w 81 4 107 Tryz.underlying81 5 hz ⟨b, o, none⟩ ⟨g, o', none⟩ n c n' c' hne t1 t2 cs1.length cs2.length hb.shape hg.shape hp (hb.frozen o) (hb.frozen cs1.length)]
  rfl
theorem ndel_ok {a : Option Addr} {c : Nat} {vs : List NoteV} {i : Nat} (ho : (ownL 107 5 encNV (.slice a vs.length c) vs).holds w) (hi : i < vs.length) (hm : vs.length ≤ 1000) :
    CallC Tryz.prog 53 #[.slice a vs.length c, .int .i64 (i : Int), .int .i64 ((i : Int) + 1)] w fun v w' =>
      v = .slice a (vs.length - 1) c ∧ Ext (fun b => (Value.slice a vs.length c).ownBlock = some b) w w' ∧ (ownL 107 5 encNV (.slice a (vs.length - 1) c) (vs.eraseIdx i)).holds w' := by
  rcases own_blk ho with ⟨_, _, _, h0, _⟩ | ⟨g, cur, rfl, _, hb, hnc, hcm, hl, ht⟩
  · omega
  have hS := (St.start w (fun b => (Value.slice (some ⟨g, 0, none⟩) vs.length c).ownBlock = some b)).add (blk_local g _ _) hb (fun b hb' => by obtain rfl := List.mem_singleton.1 hb'; exact ⟨.inl rfl, hb.lt⟩) (by simp)
  have hB : ((vs.drop (i + 1)).flatMap encNV).length = (vs.length - (i + 1)) * 5 := by rw [flat_len codNote, List.length_drop]
  have hA : cur.take (i * 5) = (vs.take i).flatMap encNV := by
    rw [← flat_takeC codNote, ← ht, List.take_take, Nat.min_eq_left (by omega)]
  have hcB : ∀ j v, ((vs.drop (i + 1)).flatMap encNV)[j]? = some v → cur[(i + 1) * 5 + j]? = some v := fun j v hj => by
    rw [← flat_dropC codNote, List.getElem?_drop, ← ht, List.getElem?_take] at hj
    split at hj
    · exact hj
    · cases hj
  refine fn_intro tabOk Tryz.func53 (by kernel_rfl) rfl Tryz.ntmps53 (Nat.le_of_ble_eq_true rfl) ?_
  (conv => whnf)
  refine sFull Tryz.underlying81 (by kernel_rfl) (by omega) (by omega) (by omega) (by omega) (fun v0 => ?_)
  (conv => whnf)
  refine brD (fun h => by omega) (fun _ => ?_)
  (conv => whnf)
  (refine drawS tabOk mixed [] (fun b => b = g) [0, 1, 2, 3, 4, 5, 6, 7] (by kernel_rfl) ?_; rintro w1 rfl; replace hS := hS.drew)
  have hK := hS.ref (fun b => b = g)
  (conv => whnf)
  refine sHead Tryz.underlying81 (by kernel_rfl) rfl (by omega) ?_
  (conv => whnf)
  refine sTail (j := i + 1) (sz := 5) Tryz.underlying81 (by kernel_rfl) (by kernel_rfl) (by omega) (by omega) ?_
  (conv => whnf)
  refine appRoom (sz := 5) (cur := cur) (news := (vs.drop (i + 1)).flatMap encNV) Tryz.underlying81 (by kernel_rfl) (hS.blk 0 rfl) ?_ hB (flat_one codNote _) (by omega) (by rw [hB, hl]; omega) ?_
  · by_cases hc : c = i + 1
    · have : (vs.drop (i + 1)).flatMap encNV = [] := List.length_eq_zero_iff.1 (by rw [hB]; omega)
      rw [this]
      intro j v hj
      simp at hj
    · rw [if_neg hc]
      exact CellsAt_of (hS.blk 0 rfl) (fun j v hj => by rw [Nat.zero_add]; exact hcB j v hj)
  replace hK := hK.trans (Ext.set (S := fun b => b = g) (b := g) rfl 107 (over cur (i * 5) ((vs.drop (i + 1)).flatMap encNV)))
  refine KeepC.mk hK ?_
  replace hS := hS.setB 0 rfl (over cur (i * 5) ((vs.drop (i + 1)).flatMap encNV))
  clear hK
  have hn1 : i + (vs.length - (i + 1)) = vs.length - 1 := by omega
  have hlB : (over cur (i * 5) ((vs.drop (i + 1)).flatMap encNV)).length = c * 5 := by rw [over_len (by rw [hB, hl]; omega), hl]
  rw [hn1]
  (conv => whnf)
  refine sBoth (j := vs.length - 1) (h := vs.length) (sz := 5) Tryz.underlying81 (by kernel_rfl) (by kernel_rfl) rfl rfl (by omega) (by omega) ?_
  rw [if_neg (by omega)]
  (conv => whnf)
  refine clearRow (zs := encNV noNV) (cur := over cur (i * 5) ((vs.drop (i + 1)).flatMap encNV)) Tryz.underlying81 (z := .agg (encNV noNV).toArray) (by kernel_rfl) (hS.blk 0 rfl) (by omega) (by
    rw [show vs.length - (vs.length - 1) = 1 by omega]
    show ((Array.range (1 * 5)).map _).toList = _
    rw [zeros_eq (.agg (encNV noNV).toArray)]
    rfl) rfl (by rw [hlB]; simp only [encNV, List.length_cons, List.length_nil]; omega) ?_
  replace hS := hS.setB 0 rfl (over (over cur (i * 5) ((vs.drop (i + 1)).flatMap encNV)) (0 + (vs.length - 1) * 5) (encNV noNV))
  repeat' ((conv => whnf); first | refine RetC.mk ?_ | refine NzC.mk (by decide) ?_ | refine RngC.mk (by omega) (by omega) ?_ | refine IdxC.mk (by omega) (by omega) ?_ | refine brD (fun _ => ?_) (fun _ => ?_) | refine brND (fun _ => ?_) (fun _ => ?_) | refine brN (fun _ => ?_) (fun _ => ?_) | refine brI (fun _ => ?_) (fun _ => ?_))
  refine ⟨rfl, hS.ext, ?_⟩
  have hle : (vs.eraseIdx i).length = vs.length - 1 := by rw [List.length_eraseIdx, if_pos hi]
  have := blk_own (sz := 5) (n := vs.length - 1) (cap := c) (xs := (vs.eraseIdx i).flatMap encNV) (hS.blk 0 rfl) (by omega) hcm (by rw [over_len (by rw [hlB]; simp only [encNV, List.length_cons, List.length_nil]; omega), hlB]) (by
    have h5 : (vs.length - 1) * 5 = i * 5 + ((vs.drop (i + 1)).flatMap encNV).length := by rw [hB]; omega
    rw [Nat.zero_add, h5, del_list (by rw [hB, hl]; omega), hA, List.eraseIdx_eq_take_drop_succ, List.flatMap_append])
  unfold ownL
  rw [hle]
  exact this
theorem nins_ok {a : Option Addr} {c b k : Nat} {vs : List NoteV} {x : NoteV} (hH : Has w [ownL 107 5 encNV (.slice a vs.length c) vs, blk b 107 (encNV x)]) (hk : k ≤ vs.length) (hm : vs.length ≤ 1000) :
    CallC Tryz.prog 97 #[.slice a vs.length c, .int .i64 (k : Int), .slice (some ⟨b, 0, none⟩) 1 1] w fun v w' =>
      ∃ a' c', v = .slice a' (vs.length + 1) c' ∧ Turns w w' [ownL 107 5 encNV (.slice a vs.length c) vs, blk b 107 (encNV x)] [ownL 107 5 encNV (.slice a' (vs.length + 1) c') (vs.take k ++ x :: vs.drop k), blk b 107 (encNV x)] := by
  have ho : (ownL 107 5 encNV (.slice a vs.length c) vs).holds w := hH.get 0 rfl
  have hcap : vs.length ≤ c := by
    rcases own_blk ho with ⟨_, h, _, h0, _⟩ | ⟨_, _, _, _, _, h, _⟩
    · omega
    · exact h
  refine fn_intro tabOk Tryz.func97 (by kernel_rfl) rfl Tryz.ntmps97 (Nat.le_of_ble_eq_true rfl) ?_
  have hS := hH.start
  (conv => whnf)
  refine sFrom Tryz.underlying81 (by kernel_rfl) (by omega) (by omega) (fun v0 => ?_)
  (conv => whnf)
  refine brD (fun h => ?_) (fun h => ?_)
  · obtain rfl : k = vs.length := by omega
    (conv => whnf)
    refine hS.appS codNote 0 (ys := [x]) (G := fun _ => True) Tryz.underlying81 (bytes := 56) (by kernel_rfl) (z := .agg (encNV noNV).toArray) (by kernel_rfl) rfl rfl (Slc.of_blk codNote (hS.blk 1 rfl) rfl (by simp) (fun _ _ => trivial) rfl) (by unfold maxLen; omega) (by omega) (fun a2 c2 w4 hS => ?_)
    repeat' ((conv => whnf); first | refine RetC.mk ?_ | refine NzC.mk (by decide) ?_ | refine RngC.mk (by omega) (by omega) ?_ | refine IdxC.mk (by omega) (by omega) ?_ | refine brD (fun _ => ?_) (fun _ => ?_) | refine brND (fun _ => ?_) (fun _ => ?_) | refine brN (fun _ => ?_) (fun _ => ?_) | refine brI (fun _ => ?_) (fun _ => ?_))
    refine ⟨a2, c2, rfl, ?_⟩
    rw [List.take_length, List.drop_length]
    exact St.turns hS
  have hkn : k < vs.length := by omega
  rcases own_blk ho with ⟨_, _, _, h0, _⟩ | ⟨g, cur, rfl, _, hb, hnc, hcm, hl, ht⟩
  · omega
  clear hcap
  have hA : cur.take (k * 5) = (vs.take k).flatMap encNV := by
    rw [← flat_takeC codNote, ← ht, List.take_take, Nat.min_eq_left (by omega)]
  have hB : ((vs.drop k).flatMap encNV).length = (vs.length - k) * 5 := by rw [flat_len codNote, List.length_drop]
  have hX : (encNV x).length = 5 := rfl
  have hcB : ∀ j v, ((vs.drop k).flatMap encNV)[j]? = some v → cur[k * 5 + j]? = some v := fun j v hj => by
    rw [← flat_dropC codNote, List.getElem?_drop, ← ht, List.getElem?_take] at hj
    split at hj
    · exact hj
    · cases hj
  have hfin : (vs.length + 1) * 5 = k * 5 + (encNV x).length + ((vs.drop k).flatMap encNV).length := by rw [hX, hB]; omega
  have hk1 : (k + 1) * 5 = k * 5 + (encNV x).length := by rw [hX]; omega
  have hflat : (vs.take k ++ x :: vs.drop k).flatMap encNV = (vs.take k).flatMap encNV ++ encNV x ++ (vs.drop k).flatMap encNV := by simp
  have hlen : (vs.take k ++ x :: vs.drop k).length = vs.length + 1 := by simp; omega
  have hgf : ∀ n' c' (xs : List NoteV), (ownL 107 5 encNV (.slice (some ⟨g, 0, none⟩) n' c') xs).foot = [g] := fun n' c' xs => by simp [ownL, own, Value.ownBlock]
  have hne : g ≠ b := fun h => hS.apartAt 0 1 rfl rfl (by decide) g (by rw [hgf]; exact List.mem_singleton.2 rfl) (by rw [h]; exact List.mem_singleton.2 rfl)
  replace hS : St w (inF [ownL 107 5 encNV (.slice (some ⟨g, 0, none⟩) vs.length c) vs, blk b 107 (encNV x)]) w [blk g 107 cur, blk b 107 (encNV x)] :=
    hS.upd 0 rfl (T := No) (Ext.refl _ _) (fun _ h => h.elim) (blk_local _ _ _) hb (fun d hd => .inl (by rw [hgf]; exact hd))
  (conv => whnf)
  refine RngC.mk (by omega) (by omega) ?_
  (conv => whnf)
  refine brD (fun h3 => ?_) (fun h3 => ?_)
  · (conv => whnf)
    refine sHead Tryz.underlying81 (by kernel_rfl) rfl (by omega) ?_
    (conv => whnf)
    refine RngC.mk (by omega) (by omega) ?_
    (conv => whnf)
    refine RngC.mk (by omega) (by omega) ?_
    (conv => whnf)
    refine appGrowZ (sz := 5) (bytes := 56) (m := vs.length + 1 - k) (cur := cur) Tryz.underlying81 Tryz.underlying3 (by kernel_rfl) (z := .agg (encNV noNV).toArray) (by kernel_rfl) rfl (hS.blk 0 rfl) (by omega) hl (by omega) (by omega) (by omega) (by omega) (by unfold maxLen; omega) (by omega) (fun G cap' Z w1 hx1 hG hB1 hc1 hc2 hl1 => ?_)
    replace hS := hS.made hx1 (blk_local _ _ _) hB1 (by simp [blk]; exact ⟨hG, hB1.lt⟩)
    rw [hA] at hS hB1 hl1
    rw [show k + (vs.length + 1 - k) = vs.length + 1 by omega]
    have hA1 : ((vs.take k).flatMap encNV ++ Z).take (k * 5) = (vs.take k).flatMap encNV := by
      rw [List.take_append_of_le_length (by rw [flat_len codNote, List.length_take]; omega), List.take_of_length_le (by rw [flat_len codNote, List.length_take]; omega)]
    generalize (vs.take k).flatMap encNV ++ Z = cur1 at hS hl1 hA1
    clear hx1 hB1
    (conv => whnf)
    refine sTail (j := k) (sz := 5) Tryz.underlying81 (by kernel_rfl) (by kernel_rfl) rfl (by omega) ?_
    rw [if_neg (by omega)]
    (conv => whnf)
    refine copyRow (sz := 5) (cur := cur1) (news := encNV x) Tryz.underlying81 (by kernel_rfl) (hS.blk 2 rfl) (CellsAt_of (hS.blk 1 rfl) (fun j v hj => by rw [Nat.zero_add]; exact hj)) (by rw [show Nat.min 1 (vs.length + 1 - k) = 1 from Nat.min_eq_left (by omega)]; rfl) rfl (by rw [hX, hl1]; omega) ?_
    replace hS := hS.setB 2 rfl (over cur1 (0 + k * 5) (encNV x))
    (conv => whnf)
    (refine drawS tabOk mixed [] (fun b => b = G) [0, 1, 2, 3, 4, 5, 6, 7, 8] (by kernel_rfl) ?_; rintro w1 rfl; replace hS := hS.drew)
    have hK := hS.ref (fun b => b = G)
    (conv => whnf)
    refine RngC.mk (by omega) (by omega) ?_
    (conv => whnf)
    refine sTail (j := k + 1) (sz := 5) Tryz.underlying81 (by kernel_rfl) (by kernel_rfl) (by omega) (by omega) ?_
    (conv => whnf)
    refine sTail (j := k) (sz := 5) Tryz.underlying81 (by kernel_rfl) (by kernel_rfl) rfl (by omega) ?_
    rw [if_neg (by omega), if_neg (by omega)]
    (conv => whnf)
    have hl2 : (over cur1 (0 + k * 5) (encNV x)).length = cap' * 5 := by rw [over_len (by rw [hX, hl1]; omega), hl1]
    refine copyRow (sz := 5) (cur := over cur1 (0 + k * 5) (encNV x)) (news := (vs.drop k).flatMap encNV) Tryz.underlying81 (by kernel_rfl) (hS.blk 2 rfl) (CellsAt_of (hS.blk 0 rfl) (fun j v hj => by rw [Nat.zero_add]; exact hcB j v hj)) (by rw [hB]; congr 1; rw [show vs.length + 1 - (k + 1) = vs.length - k by omega]; exact (Nat.min_self _).symm) (flat_one codNote _) (by rw [hB, hl2]; omega) ?_
    replace hK := hK.trans (Ext.set (S := fun b => b = G) (b := G) rfl 107 (over (over cur1 (0 + k * 5) (encNV x)) (0 + (k + 1) * 5) ((vs.drop k).flatMap encNV)))
    refine KeepC.mk hK ?_
    replace hS := hS.setB 2 rfl (over (over cur1 (0 + k * 5) (encNV x)) (0 + (k + 1) * 5) ((vs.drop k).flatMap encNV))
    repeat' ((conv => whnf); first | refine RetC.mk ?_ | refine NzC.mk (by decide) ?_ | refine RngC.mk (by omega) (by omega) ?_ | refine IdxC.mk (by omega) (by omega) ?_ | refine brD (fun _ => ?_) (fun _ => ?_) | refine brND (fun _ => ?_) (fun _ => ?_) | refine brN (fun _ => ?_) (fun _ => ?_) | refine brI (fun _ => ?_) (fun _ => ?_))
    have hrow := blk_own (sz := 5) (n := vs.length + 1) (cap := cap') (xs := (vs.take k ++ x :: vs.drop k).flatMap encNV) (hS.blk 2 rfl) (by omega) hc2 (by rw [over_len (by rw [hB, hl2]; omega), hl2]) (by
      rw [Nat.zero_add, Nat.zero_add, hfin, hk1, ins_list2 (by rw [hX, hB, hl1]; omega), hA1, hflat])
    have hS2 := (hS.upd 2 rfl (e' := ownL 107 5 encNV (.slice (some ⟨G, 0, none⟩) (vs.length + 1) cap') (vs.take k ++ x :: vs.drop k)) (T := No) (Ext.refl _ _) (fun _ h => h.elim) ownL_local (by unfold ownL; rw [hlen]; exact hrow) (fun d hd => .inl (by rw [show (ownL 107 5 encNV (.slice (some ⟨G, 0, none⟩) (vs.length + 1) cap') (vs.take k ++ x :: vs.drop k)).foot = [G] by simp [ownL, own, Value.ownBlock]] at hd; exact hd))).sel [2, 1] (by decide)
    exact ⟨_, _, rfl, St.turns hS2⟩
  · (conv => whnf)
    refine RngC.mk (by omega) (by omega) ?_
    (conv => whnf)
    refine sHead (j := vs.length + 1) Tryz.underlying81 (by kernel_rfl) (by omega) (by omega) ?_
    (conv => whnf)
    refine RngC.mk (by omega) (by omega) ?_
    (conv => whnf)
    refine sTail (j := k + 1) (sz := 5) Tryz.underlying81 (by kernel_rfl) (by kernel_rfl) (by omega) (by omega) ?_
    (conv => whnf)
    refine CallC.extern (x_overlaps (hS.blk 1 rfl) (hS.blk 0 rfl) (Ne.symm hne) (by rw [hl]; omega)) ?_
    (conv => whnf)
    (refine drawS tabOk mixed [] (fun b => b = g) [0, 1, 2, 3, 4, 5, 6, 7, 8] (by kernel_rfl) ?_; rintro w1 rfl; replace hS := hS.drew)
    have hK := hS.ref (fun b => b = g)
    (conv => whnf)
    refine RngC.mk (by omega) (by omega) ?_
    (conv => whnf)
    refine sTail (j := k + 1) (sz := 5) Tryz.underlying81 (by kernel_rfl) (by kernel_rfl) (by omega) (by omega) ?_
    (conv => whnf)
    refine sTail (j := k) (sz := 5) Tryz.underlying81 (by kernel_rfl) (by kernel_rfl) rfl (by omega) ?_
    rw [if_neg (by omega)]
    have hof : (if c = k + 1 then 0 else 0 + (k + 1) * 5) = 0 + (k + 1) * 5 := if_neg (by omega)
    rw [hof]
    (conv => whnf)
    refine copyRow (sz := 5) (cur := cur) (news := (vs.drop k).flatMap encNV) Tryz.underlying81 (by kernel_rfl) (hS.blk 0 rfl) (CellsAt_of (hS.blk 0 rfl) (fun j v hj => by rw [Nat.zero_add]; exact hcB j v hj)) (by rw [hB]; congr 1; rw [show vs.length + 1 - (k + 1) = vs.length - k by omega]; exact (Nat.min_eq_right (by omega)).symm) (flat_one codNote _) (by rw [hB, hl]; omega) ?_
    replace hK := hK.trans (Ext.set (S := fun b => b = g) (b := g) rfl 107 (over cur (0 + (k + 1) * 5) ((vs.drop k).flatMap encNV)))
    refine KeepC.mk hK ?_
    replace hS := hS.setB 0 rfl (over cur (0 + (k + 1) * 5) ((vs.drop k).flatMap encNV))
    have hl2 : (over cur (0 + (k + 1) * 5) ((vs.drop k).flatMap encNV)).length = c * 5 := by rw [over_len (by rw [hB, hl]; omega), hl]
    (conv => whnf)
    refine sTail (j := k) (sz := 5) Tryz.underlying81 (by kernel_rfl) (by kernel_rfl) rfl (by omega) ?_
    rw [if_neg (by omega)]
    (conv => whnf)
    refine copyRow (sz := 5) (cur := over cur (0 + (k + 1) * 5) ((vs.drop k).flatMap encNV)) (news := encNV x) Tryz.underlying81 (by kernel_rfl) (hS.blk 0 rfl) (CellsAt_of (hS.blk 1 rfl) (fun j v hj => by rw [Nat.zero_add]; exact hj)) (by rw [show Nat.min 1 (vs.length + 1 - k) = 1 from Nat.min_eq_left (by omega)]; rfl) rfl (by rw [hX, hl2]; omega) ?_
    replace hS := hS.setB 0 rfl (over (over cur (0 + (k + 1) * 5) ((vs.drop k).flatMap encNV)) (0 + k * 5) (encNV x))
    repeat' ((conv => whnf); first | refine RetC.mk ?_ | refine NzC.mk (by decide) ?_ | refine RngC.mk (by omega) (by omega) ?_ | refine IdxC.mk (by omega) (by omega) ?_ | refine brD (fun _ => ?_) (fun _ => ?_) | refine brND (fun _ => ?_) (fun _ => ?_) | refine brN (fun _ => ?_) (fun _ => ?_) | refine brI (fun _ => ?_) (fun _ => ?_))
    have hrow := blk_own (sz := 5) (n := vs.length + 1) (cap := c) (xs := (vs.take k ++ x :: vs.drop k).flatMap encNV) (hS.blk 0 rfl) (by omega) hcm (by rw [over_len (by rw [hX, hl2]; omega), hl2]) (by
      rw [Nat.zero_add, Nat.zero_add, hfin, hk1, ins_list (by rw [hX, hB, hl]; omega), hA, hflat])
    have hS2 := hS.upd 0 rfl (e' := ownL 107 5 encNV (.slice (some ⟨g, 0, none⟩) (vs.length + 1) c) (vs.take k ++ x :: vs.drop k)) (T := No) (Ext.refl _ _) (fun _ h => h.elim) ownL_local (by unfold ownL; rw [hlen]; exact hrow) (fun d hd => .inl (by rw [hgf] at hd; exact hd))
    exact ⟨_, _, rfl, St.turns hS2⟩
end
end Go.Proofs.YtoaghhcjlfiflaaGreatDoor

namespace Go.Proofs.YtoaghhcjlfiflaaGreatDoor
open Go Ev
structure Pow (B : BytS) : Prop where
  bok : BOk B
  off : B.off = false
  left : B.left = -1
theorem write_pow : ∀ (s : List UInt8) (B : BytS) (p : Nat), B.off = false → B.left = -1 → (B.write p s).1 = true ∧ (B.write p s).2.off = false ∧ (B.write p s).2.left = -1
  | [], B, p, h1, h2 => ⟨rfl, h1, h2⟩
  | x :: r, B, p, h1, h2 => by
    rw [write_cons, if_neg (by rw [h1, h2]; decide)]
    exact write_pow r _ _ h1 (by rw [h2]; rfl)
theorem mark_pow (B : BytS) (p : Nat) (h1 : B.off = false) (h2 : B.left = -1) : (mark B p).1 = true ∧ (mark B p).2.off = false ∧ (mark B p).2.left = -1 := by
  unfold mark
  split
  · split
    · exact ⟨rfl, h1, h2⟩
    · exact write_pow _ _ _ h1 h2
  · exact ⟨rfl, h1, h2⟩
theorem cwrite_pow (B : BytS) (n e l : Nat) (h1 : B.off = false) (h2 : B.left = -1) : (cwrite B n e l).1 = true ∧ (cwrite B n e l).2.off = false ∧ (cwrite B n e l).2.left = -1 := by
  obtain ⟨a1, a2, a3⟩ := mark_pow B (n % 2 * 20 + 16) h1 h2
  obtain ⟨b1, b2, b3⟩ := write_pow (bodyB n e l) (mark B (n % 2 * 20 + 16)).2 (n % 2 * 20) a2 a3
  unfold cwrite
  rw [if_neg (by rw [h1]; decide), if_pos a1, if_pos b1]
  exact write_pow _ _ _ b2 b3
theorem put_pow {B : BytS} {C : CelS} {e l : Nat} (hP : Pow B) (hC : openS B.data = C) (hn : C.num + 1 < 4294967296) (he : C.ep ≤ e ∧ e ≤ 1073741824) (hl : C.li ≤ l ∧ l ≤ 1073741824) :
    (C.put B e l).1 = 0 ∧ Pow (C.put B e l).2.1 ∧ openS (C.put B e l).2.1.data = (C.put B e l).2.2 ∧ (C.put B e l).2.2 = ⟨C.num + 1, e, l, false⟩ := by
  have hd : C.dead = false := by rw [← hC]; exact openS_dead _
  obtain ⟨w1, w2, w3⟩ := cwrite_pow B (C.num + 1) e l hP.off hP.left
  have hk := hP.bok.cwrite (C.num + 1) e l
  have hlaw := cwrite_law (e := e) (l := l) hP.bok hP.off (by rw [hC]; exact hn) (by omega) (by omega)
  rw [hC] at hlaw
  have ho : openS (cwrite B (C.num + 1) e l).2.data = ⟨C.num + 1, e, l, false⟩ := by
    rcases hlaw with ⟨_, h, _⟩ | ⟨h, _⟩
    · exact h
    · rw [w1] at h
      cases h
  have hput : C.put B e l = (0, (cwrite B (C.num + 1) e l).2, ⟨C.num + 1, e, l, C.dead⟩) := by
    unfold CelS.put
    rw [if_neg (by rw [hd]; decide), if_neg (by omega), if_neg (by omega), if_neg (by omega)]
    simp only [Int.toNat_natCast]
    rw [if_pos w1]
  rw [hput, hd]
  exact ⟨rfl, ⟨hk, w2, w3⟩, ho, rfl⟩

structure Lived (ep li n k : Nat) (N : NodeS) (B : BytS) : Prop where
  ok : NOk (34 * k) N
  pow : Pow B
  cell : openS B.data = N.cell
  now : N.now = k
  tab : N.tab.cells = emptyCells
  mir : N.mir.cells = emptyCells
  li : N.cell.li = li
  num : N.cell.num ≤ n + 1
  at_ : (k ≤ 9 ∧ N.role.active = false ∧ N.role.silence = k ∧ N.role.epoch = ep ∧ N.cell.ep = ep ∧ N.cell.num = n) ∨
    (9 < k ∧ N.role.active = true ∧ ∃ e : Nat, N.role.epoch = e ∧ ep < e ∧ e ≤ ep + 2 ∧ N.cell.ep = e)
theorem Lived.born {id : Int} {B : BytS} {rules : List RuleS} (hid : id = 0 ∨ id = 1) (hg : (faultL rules).1 = 0) (hP : Pow B) (hn : (openS B.data).num ≤ 1000000) (he : (openS B.data).ep ≤ 1000000) (hl : (openS B.data).li ≤ 1000000) :
    (newN id B rules).1 = 0 ∧ Lived (openS B.data).ep ((openS B.data).li + 1) ((openS B.data).num + 1) 0 (newN id B rules).2.1 (newN id B rules).2.2 := by
  obtain ⟨p1, p2, p3, p4⟩ := put_pow (B := B) (C := openS B.data) (e := (openS B.data).ep) (l := (openS B.data).li + 1) hP rfl (by omega) (by omega) (by omega)
  have h1 := (newN_ok (id := id) (xs := rules) hid hP.bok hg).2 p1
  refine ⟨p1, h1, p2, p3, rfl, rfl, rfl, ?_, ?_, .inl ⟨by decide, rfl, rfl, ?_, ?_, ?_⟩⟩
  · show ((openS B.data).put B (openS B.data).ep ((openS B.data).li + 1)).2.2.li = _
    rw [show (((openS B.data).li : Int) + 1) = (((openS B.data).li + 1 : Nat) : Int) from rfl, p4]
  · show ((openS B.data).put B (openS B.data).ep ((openS B.data).li + 1)).2.2.num ≤ _
    rw [show (((openS B.data).li : Int) + 1) = (((openS B.data).li + 1 : Nat) : Int) from rfl, p4]
    exact Nat.le_succ _
  · show ((((openS B.data).put B (openS B.data).ep ((openS B.data).li + 1)).2.2.ep : Nat) : Int) = _
    rw [show (((openS B.data).li : Int) + 1) = (((openS B.data).li + 1 : Nat) : Int) from rfl, p4]
  · show ((openS B.data).put B (openS B.data).ep ((openS B.data).li + 1)).2.2.ep = _
    rw [show (((openS B.data).li : Int) + 1) = (((openS B.data).li + 1 : Nat) : Int) from rfl, p4]
  · show ((openS B.data).put B (openS B.data).ep ((openS B.data).li + 1)).2.2.num = _
    rw [show (((openS B.data).li : Int) + 1) = (((openS B.data).li + 1 : Nat) : Int) from rfl, p4]
end Go.Proofs.YtoaghhcjlfiflaaGreatDoor

namespace Go.Proofs.YtoaghhcjlfiflaaGreatDoor
open Go Ev
structure SideS where
  node : Option NodeS
  byt : BytS
structure WorldS where
  a : SideS
  b : SideS
  rules : List RuleS
  fly : List NoteS
  to : Int
  epoch : Int
  events : List (Int × Int)
def WorldS.side (W : WorldS) (n : Int) : SideS := if n = 0 then W.a else W.b
def WorldS.setSide (W : WorldS) (n : Int) (s : SideS) : WorldS := if n = 0 then { W with a := s } else { W with b := s }
def WorldS.upErr (W : WorldS) (n : Int) : Nat := if n ≠ 0 ∧ n ≠ 1 then 2 else match (W.side n).node with
  | none => 7
  | some _ => 0
def WorldS.ticked (W : WorldS) (n : Int) (N : NodeS) (T : Nat × List NoteS × NodeS × BytS) : Nat × WorldS :=
  if T.2.2.2.off = true then (T.1, W.setSide n ⟨none, T.2.2.2⟩) else
  if T.1 ≠ 0 then (T.1, W.setSide n ⟨some T.2.2.1, T.2.2.2⟩) else
  (0, { W.setSide n ⟨some T.2.2.1, T.2.2.2⟩ with
    events := if N.role.active = false ∧ T.2.2.1.role.active = true ∧ W.events.length < 1000 then W.events ++ [(n, T.2.2.1.role.epoch)] else W.events
    fly := W.fly ++ T.2.1.take (200 - W.fly.length) })
def WorldS.tick (W : WorldS) (n : Int) : Nat × WorldS :=
  if n ≠ 0 ∧ n ≠ 1 then (2, W) else match (W.side n).node with
  | none => (7, W)
  | some N => W.ticked n N (N.tick (W.side n).byt)
def WorldS.handErr (W : WorldS) : Nat := if W.to < 0 then 4 else W.upErr W.to
def WorldS.inside (W : WorldS) (p : PktS) : Nat × PktS × WorldS :=
  if W.handErr ≠ 0 then (W.handErr, noPkt, W) else match (W.side W.to).node with
  | none => (7, noPkt, W)
  | some N => ((N.inside p).1, (N.inside p).2.1, W.setSide W.to ⟨some (N.inside p).2.2, (W.side W.to).byt⟩)
def WorldS.outside (W : WorldS) (p : PktS) : Nat × PktS × WorldS :=
  if W.handErr ≠ 0 then (W.handErr, noPkt, W) else match (W.side W.to).node with
  | none => (7, noPkt, W)
  | some N => ((N.outside p).1, (N.outside p).2.1, W.setSide W.to ⟨some (N.outside p).2.2, (W.side W.to).byt⟩)
def WorldS.at_ (W : WorldS) (k : Int) : Nat := if k < 0 ∨ k ≥ W.fly.length then 4 else 0
def WorldS.off (W : WorldS) (k : Int) : WorldS := { W with fly := W.fly.eraseIdx k.toNat }
def WorldS.got (W : WorldS) (x : NoteS) : WorldS :=
  if x.claim = true then (if x.epoch > W.epoch ∨ W.to < 0 then { W with to := x.fro, epoch := x.epoch } else W) else
  if 1 - x.fro ≠ 0 ∧ 1 - x.fro ≠ 1 then W else match (W.side (1 - x.fro)).node with
  | none => W
  | some N => W.setSide (1 - x.fro) ⟨some (N.hear x).2, (W.side (1 - x.fro)).byt⟩
def WorldS.deliver (W : WorldS) (k : Int) : Nat × WorldS :=
  if W.at_ k ≠ 0 then (W.at_ k, W) else match W.fly[k.toNat]? with
  | none => (4, W)
  | some x => (0, (W.off k).got x)
def WorldS.drop (W : WorldS) (k : Int) : Nat × WorldS := if W.at_ k ≠ 0 then (W.at_ k, W) else (0, W.off k)
def WorldS.twice (W : WorldS) (k : Int) : Nat × WorldS :=
  if W.at_ k ≠ 0 then (W.at_ k, W) else if W.fly.length ≥ 200 then (6, W) else match W.fly[k.toNat]? with
  | none => (4, W)
  | some x => (0, { W with fly := W.fly.take (k.toNat + 1) ++ x :: W.fly.drop (k.toNat + 1) })
def WorldS.down (W : WorldS) (n : Int) : Nat × WorldS :=
  if W.upErr n ≠ 0 then (W.upErr n, W) else (0, W.setSide n ⟨none, { (W.side n).byt with off := true }⟩)
def onB (B : BytS) : BytS := ⟨B.data, false, -1⟩
def WorldS.up (W : WorldS) (n : Int) : Nat × WorldS :=
  if n ≠ 0 ∧ n ≠ 1 then (2, W) else match (W.side n).node with
  | some _ => (11, W)
  | none => if (newN n (onB (W.side n).byt) W.rules).1 ≠ 0 then ((newN n (onB (W.side n).byt) W.rules).1, W.setSide n ⟨none, (newN n (onB (W.side n).byt) W.rules).2.2⟩)
    else (0, W.setSide n ⟨some (newN n (onB (W.side n).byt) W.rules).2.1, (newN n (onB (W.side n).byt) W.rules).2.2⟩)
def cutE (B : BytS) (k : Int) : Nat := if k < 0 then 2 else if B.off = true then 7 else 0
def cutB (B : BytS) (k : Int) : BytS := if k < 0 ∨ B.off = true then B else ⟨B.data, B.off, k⟩
def WorldS.cut (W : WorldS) (n k : Int) : Nat × WorldS :=
  if W.upErr n ≠ 0 then (W.upErr n, W) else (cutE (W.side n).byt k, W.setSide n ⟨(W.side n).node, cutB (W.side n).byt k⟩)
def SideS.ruled (s : SideS) (l : List RuleS) : SideS := { s with node := s.node.map fun N => { N with rules := l } }
def WorldS.rule (W : WorldS) (l : List RuleS) : WorldS := { W with rules := l, a := W.a.ruled l, b := W.b.ruled l }
def WorldS.born (l : List RuleS) : WorldS := ⟨⟨some (newN 0 by0 l).2.1, (newN 0 by0 l).2.2⟩, ⟨some (newN 1 by0 l).2.1, (newN 1 by0 l).2.2⟩, l, [], -1, 0, []⟩

structure SideOk (m : Nat) (n : Int) (s : SideS) : Prop where
  bok : BOk s.byt
  node : ∀ N, s.node = some N → NOk m N ∧ N.id = n ∧ s.byt.off = false
structure WOk (m : Nat) (W : WorldS) : Prop where
  a : SideOk m 0 W.a
  b : SideOk m 1 W.b
  rules : GoodR W.rules
  fly : W.fly.length ≤ 200
  notes : ∀ x ∈ W.fly, (x.fro = 0 ∨ x.fro = 1) ∧ x.cells.length ≤ 8
  to : W.to = -1 ∨ W.to = 0 ∨ W.to = 1
  events : W.events.length ≤ 1000
theorem WOk.side {m : Nat} {W : WorldS} (h : WOk m W) {n : Int} (hn : n = 0 ∨ n = 1) : SideOk m n (W.side n) := by
  rcases hn with rfl | rfl
  · exact h.a
  · exact h.b
theorem SideOk.mono {m k : Nat} {n : Int} {s : SideS} (h : SideOk m n s) (hk : m ≤ k) : SideOk k n s := ⟨h.bok, fun N hN => ⟨(h.node N hN).1.mono hk, (h.node N hN).2⟩⟩
theorem WOk.mono {m k : Nat} {W : WorldS} (h : WOk m W) (hk : m ≤ k) : WOk k W := ⟨h.a.mono hk, h.b.mono hk, h.rules, h.fly, h.notes, h.to, h.events⟩
theorem WOk.setSide {m : Nat} {W : WorldS} (h : WOk m W) {n : Int} (hn : n = 0 ∨ n = 1) {s : SideS} (hs : SideOk m n s) : WOk m (W.setSide n s) := by
  rcases hn with rfl | rfl
  · exact ⟨hs, h.b, h.rules, h.fly, h.notes, h.to, h.events⟩
  · exact ⟨h.a, hs, h.rules, h.fly, h.notes, h.to, h.events⟩
theorem claim_id (N : NodeS) (B : BytS) : (N.claim B).2.1.id = N.id := by
  unfold NodeS.claim
  repeat' split
  all_goals rfl
theorem notes_id (N : NodeS) (c : Bool) : (N.notes c).2.id = N.id := by
  unfold NodeS.notes
  dsimp only
  split <;> rfl
theorem tick_id (N : NodeS) (B : BytS) : (N.tick B).2.2.1.id = N.id := by
  unfold NodeS.tick
  split
  · rfl
  split
  · split
    · exact claim_id _ _
    · exact (notes_id _ (N.step.2.claim B).1.1).trans (claim_id _ _)
  · exact notes_id _ false
theorem begin_id (N : NodeS) (p : PktS) : (N.begin p).2.id = N.id := by
  unfold NodeS.begin
  repeat' split
  all_goals rfl
theorem inside_id (N : NodeS) (p : PktS) : (N.inside p).2.2.id = N.id := by
  unfold NodeS.inside
  repeat' split
  all_goals first | rfl | exact begin_id N p
theorem outside_id (N : NodeS) (p : PktS) : (N.outside p).2.2.id = N.id := by
  unfold NodeS.outside
  repeat' split
  all_goals rfl
theorem hear_id (N : NodeS) (x : NoteS) : (N.hear x).2.id = N.id := by
  unfold NodeS.hear
  repeat' split
  all_goals rfl
theorem notes_fro (N : NodeS) (c : Bool) : ∀ x ∈ (N.notes c).1, x.fro = N.id := by
  cases hb : N.beat
  · cases c
    · rw [notes_ff hb]
      intro x hx
      cases hx
    · rw [notes_tf hb]
      intro x hx
      obtain rfl := List.mem_singleton.1 hx
      rfl
  · rw [notes_t hb]
    intro x hx
    rcases List.mem_cons.1 hx with rfl | hx
    · rfl
    · obtain rfl := List.mem_singleton.1 hx
      rfl
theorem tick_fro (N : NodeS) (B : BytS) : ∀ x ∈ (N.tick B).2.1, x.fro = N.id := by
  unfold NodeS.tick
  split
  · intro x hx
    cases hx
  split
  · split
    · intro x hx
      cases hx
    · intro x hx
      exact (notes_fro _ (N.step.2.claim B).1.1 x hx).trans (claim_id _ _)
  · intro x hx
    exact notes_fro N.step.2 false x hx
theorem notes_few {N : NodeS} (h : N.tel.cursor < 32) (c : Bool) : ∀ x ∈ (N.notes c).1, x.cells.length ≤ 8 := by
  cases hb : N.beat
  · cases c
    · rw [notes_ff hb]
      intro x hx
      cases hx
    · rw [notes_tf hb]
      intro x hx
      obtain rfl := List.mem_singleton.1 hx
      exact Nat.zero_le _
  · rw [notes_t hb]
    intro x hx
    rcases List.mem_cons.1 hx with rfl | hx
    · exact Nat.zero_le _
    · obtain rfl := List.mem_singleton.1 hx
      show (outC N.tab.cells (N.tel.picks N.tab.cells)).length ≤ 8
      unfold outC
      rw [List.length_map]
      exact Nat.le_of_eq (picks_law N.tab.cells h).len
theorem claim_tel (N : NodeS) (B : BytS) : (N.claim B).2.1.tel = N.tel := by
  unfold NodeS.claim
  repeat' split
  all_goals rfl
theorem tick_few {m : Nat} {N : NodeS} (h : NOk m N) (B : BytS) : ∀ x ∈ (N.tick B).2.1, x.cells.length ≤ 8 := by
  unfold NodeS.tick
  split
  · intro x hx
    cases hx
  split
  · split
    · intro x hx
      cases hx
    · intro x hx
      exact notes_few (by rw [claim_tel]; exact h.cur) (N.step.2.claim B).1.1 x hx
  · intro x hx
    exact notes_few (N := N.step.2) h.cur false x hx
theorem WOk.tick {m : Nat} {W : WorldS} (h : WOk m W) (hm : m ≤ 40000000) (n : Int) : WOk (m + 34) (W.tick n).2 := by
  unfold WorldS.tick
  split
  · exact h.mono (Nat.le_add_right _ _)
  rename_i hn
  have hn : n = 0 ∨ n = 1 := by omega
  have hs := h.side hn
  cases hN : (W.side n).node with
  | none => exact h.mono (Nat.le_add_right _ _)
  | some N =>
    obtain ⟨g1, g2, g3⟩ := hs.node N hN
    have hok := g1.tick (by omega) (W.side n).byt
    have hbk := NodeS.tick_bok (N := N) hs.bok
    have hid := tick_id N (W.side n).byt
    have hfr := tick_fro N (W.side n).byt
    have hce := tick_few g1 (W.side n).byt
    show WOk (m + 34) (W.ticked n N (N.tick (W.side n).byt)).2
    generalize N.tick (W.side n).byt = T at hok hbk hid hfr hce ⊢
    obtain ⟨e, l, N', B'⟩ := T
    dsimp only at hok hbk hid hfr hce ⊢
    have hup : B'.off = false → SideOk (m + 34) n ⟨some N', B'⟩ := fun ho => ⟨hbk, fun M hM => by obtain rfl := Option.some.inj hM; exact ⟨hok, hid.trans g2, ho⟩⟩
    have hdn : SideOk (m + 34) n ⟨none, B'⟩ := ⟨hbk, fun M hM => by cases hM⟩
    have h2 := h.mono (Nat.le_add_right m 34)
    unfold WorldS.ticked
    dsimp only
    split
    · exact h2.setSide hn hdn
    rename_i ho
    have ho : B'.off = false := Bool.eq_false_iff.2 ho
    split
    · exact h2.setSide hn (hup ho)
    · obtain ⟨w1, w2, w3, w4, w5, w6, w7⟩ := h2.setSide hn (hup ho)
      have hfly : (W.setSide n ⟨some N', B'⟩).fly = W.fly := by unfold WorldS.setSide; split <;> rfl
      have hlen := h.fly
      refine ⟨w1, w2, w3, ?_, ?_, w6, ?_⟩
      · simp only [List.length_append, List.length_take]
        omega
      · intro x hx
        rcases List.mem_append.1 hx with hx | hx
        · exact h.notes x hx
        · refine ⟨?_, hce x (List.mem_of_mem_take hx)⟩
          rw [hfr x (List.mem_of_mem_take hx), g2]
          exact hn
      · show (if _ then _ else _ : List (Int × Int)).length ≤ 1000
        have he := h.events
        split
        · simp only [List.length_append, List.length_singleton]
          omega
        · exact he
theorem WOk.hand {m : Nat} {W : WorldS} (h : WOk m W) (he : W.handErr = 0) : (W.to = 0 ∨ W.to = 1) ∧ ∃ N, (W.side W.to).node = some N := by
  unfold WorldS.handErr at he
  split at he
  · exact absurd he (by decide)
  rename_i h1
  have ht : W.to = 0 ∨ W.to = 1 := by have := h.to; omega
  refine ⟨ht, ?_⟩
  unfold WorldS.upErr at he
  rw [if_neg (by omega)] at he
  cases hN : (W.side W.to).node with
  | none => rw [hN] at he; exact absurd he (by decide)
  | some N => exact ⟨N, rfl⟩
theorem tin_ok {m : Nat} {N : NodeS} (h : NOk m N) (p : PktS) : NOk (m + 1) (N.inside p).2.2 := by
  unfold NodeS.inside
  split
  · exact h.mono (Nat.le_succ _)
  split
  · exact h.mono (Nat.le_succ _)
  split
  · exact h.pass _ _ _
  split
  all_goals exact h.begin p
theorem tout_ok {m : Nat} {N : NodeS} (h : NOk m N) (p : PktS) : NOk (m + 1) (N.outside p).2.2 := by
  unfold NodeS.outside
  split
  · exact h.mono (Nat.le_succ _)
  split
  · exact h.mono (Nat.le_succ _)
  split
  · exact h.mono (Nat.le_succ _)
  split
  · exact h.mono (Nat.le_succ _)
  · exact h.pass _ _ _
theorem WOk.inside {m : Nat} {W : WorldS} (h : WOk m W) (p : PktS) : WOk (m + 1) (W.inside p).2.2 := by
  unfold WorldS.inside
  by_cases he : W.handErr = 0
  · obtain ⟨ht, N, hN⟩ := h.hand he
    rw [if_neg (fun h => h he), hN]
    obtain ⟨g1, g2, g3⟩ := (h.side ht).node N hN
    exact (h.mono (Nat.le_succ m)).setSide ht ⟨(h.side ht).bok, fun M hM => by obtain rfl := Option.some.inj hM; exact ⟨tin_ok g1 p, (inside_id N p).trans g2, g3⟩⟩
  · rw [if_pos he]
    exact h.mono (Nat.le_succ m)
theorem WOk.outside {m : Nat} {W : WorldS} (h : WOk m W) (p : PktS) : WOk (m + 1) (W.outside p).2.2 := by
  unfold WorldS.outside
  by_cases he : W.handErr = 0
  · obtain ⟨ht, N, hN⟩ := h.hand he
    rw [if_neg (fun h => h he), hN]
    obtain ⟨g1, g2, g3⟩ := (h.side ht).node N hN
    exact (h.mono (Nat.le_succ m)).setSide ht ⟨(h.side ht).bok, fun M hM => by obtain rfl := Option.some.inj hM; exact ⟨tout_ok g1 p, (outside_id N p).trans g2, g3⟩⟩
  · rw [if_pos he]
    exact h.mono (Nat.le_succ m)
theorem WOk.off {m : Nat} {W : WorldS} (h : WOk m W) (k : Int) : WOk m (W.off k) := by
  have h1 : (W.fly.eraseIdx k.toNat).length ≤ W.fly.length := List.length_eraseIdx_le _ _
  have h2 := h.fly
  exact ⟨h.a, h.b, h.rules, by show (W.fly.eraseIdx k.toNat).length ≤ 200; omega, fun x hx => h.notes x (List.mem_of_mem_eraseIdx hx), h.to, h.events⟩
theorem WOk.got {m : Nat} {W : WorldS} (h : WOk m W) {x : NoteS} (hx : x.fro = 0 ∨ x.fro = 1) : WOk m (W.got x) := by
  unfold WorldS.got
  split
  · split
    · exact ⟨h.a, h.b, h.rules, h.fly, h.notes, .inr hx, h.events⟩
    · exact h
  split
  · exact h
  rename_i h1
  have hn : 1 - x.fro = 0 ∨ 1 - x.fro = 1 := by omega
  cases hN : (W.side (1 - x.fro)).node with
  | none => exact h
  | some N =>
    obtain ⟨g1, g2, g3⟩ := (h.side hn).node N hN
    exact h.setSide hn ⟨(h.side hn).bok, fun M hM => by obtain rfl := Option.some.inj hM; exact ⟨g1.hear x, (hear_id N x).trans g2, g3⟩⟩
theorem WOk.deliver {m : Nat} {W : WorldS} (h : WOk m W) (k : Int) : WOk m (W.deliver k).2 := by
  unfold WorldS.deliver
  split
  · exact h
  cases hx : W.fly[k.toNat]? with
  | none => exact h
  | some x => exact (h.off k).got (h.notes x (List.mem_of_getElem? hx)).1
theorem WOk.twice {m : Nat} {W : WorldS} (h : WOk m W) (k : Int) : WOk m (W.twice k).2 := by
  unfold WorldS.twice
  split
  · exact h
  split
  · exact h
  rename_i h2
  cases hx : W.fly[k.toNat]? with
  | none => exact h
  | some x =>
    refine ⟨h.a, h.b, h.rules, ?_, fun y hy => ?_, h.to, h.events⟩
    · show (W.fly.take (k.toNat + 1) ++ x :: W.fly.drop (k.toNat + 1)).length ≤ 200
      simp only [List.length_append, List.length_take, List.length_cons, List.length_drop]
      omega
    · rcases List.mem_append.1 hy with hy | hy
      · exact h.notes y (List.mem_of_mem_take hy)
      · rcases List.mem_cons.1 hy with rfl | hy
        · exact h.notes y (List.mem_of_getElem? hx)
        · exact h.notes y (List.mem_of_mem_drop hy)
theorem upErr_in {W : WorldS} {n : Int} (he : W.upErr n = 0) : (n = 0 ∨ n = 1) ∧ ∃ N, (W.side n).node = some N := by
  unfold WorldS.upErr at he
  split at he
  · exact absurd he (by decide)
  rename_i h1
  refine ⟨by omega, ?_⟩
  cases hN : (W.side n).node with
  | none => rw [hN] at he; exact absurd he (by decide)
  | some N => exact ⟨N, rfl⟩
theorem WOk.down {m : Nat} {W : WorldS} (h : WOk m W) (n : Int) : WOk m (W.down n).2 := by
  unfold WorldS.down
  by_cases he : W.upErr n = 0
  · obtain ⟨hn, N, hN⟩ := upErr_in he
    rw [if_neg (fun h => h he)]
    have hb := (h.side hn).bok
    exact h.setSide hn ⟨⟨hb.len, hb.lo, hb.hi⟩, fun M hM => by cases hM⟩
  · rw [if_pos he]
    exact h
theorem onB_ok {B : BytS} (h : BOk B) : BOk (onB B) := ⟨h.len, by show (-1 : Int) ≤ -1; decide, by show (-1 : Int) ≤ 9223372036854775807; decide⟩
theorem put_on (C : CelS) (B : BytS) (e l : Int) (h1 : B.off = false) (h2 : B.left = -1) : (C.put B e l).2.1.off = false := by
  unfold CelS.put
  repeat' split
  all_goals first | exact h1 | exact (cwrite_pow _ _ _ _ h1 h2).2.1
theorem new_on (n : Int) (B : BytS) (l : List RuleS) : (newN n (onB B) l).2.2.off = false := put_on _ _ _ _ rfl rfl
theorem WOk.up {m : Nat} {W : WorldS} (h : WOk m W) (n : Int) : WOk m (W.up n).2 := by
  unfold WorldS.up
  split
  · exact h
  rename_i h1
  have hn : n = 0 ∨ n = 1 := by omega
  cases hN : (W.side n).node with
  | some N => exact h
  | none =>
    obtain ⟨g1, g2⟩ := newN_ok (id := n) (B := onB (W.side n).byt) (xs := W.rules) hn (onB_ok (h.side hn).bok) (fault_good.2 h.rules)
    dsimp only
    split
    · exact h.setSide hn ⟨g1, fun M hM => by cases hM⟩
    · rename_i h2
      have h2 : (newN n (onB (W.side n).byt) W.rules).1 = 0 := Classical.byContradiction h2
      exact h.setSide hn ⟨g1, fun M hM => by obtain rfl := Option.some.inj hM; exact ⟨(g2 h2).mono (Nat.zero_le m), rfl, new_on n (W.side n).byt W.rules⟩⟩
theorem cutB_ok {B : BytS} (h : BOk B) (k : Int) (hk : k ≤ 9223372036854775807) : BOk (cutB B k) := by
  unfold cutB
  split
  · exact h
  · exact ⟨h.len, by dsimp only; omega, hk⟩
theorem cutB_off (B : BytS) (k : Int) : (cutB B k).off = B.off := by
  unfold cutB
  split <;> rfl
theorem WOk.cut {m : Nat} {W : WorldS} (h : WOk m W) (n k : Int) (hk : k ≤ 9223372036854775807) : WOk m (W.cut n k).2 := by
  unfold WorldS.cut
  by_cases he : W.upErr n = 0
  · obtain ⟨hn, N, hN⟩ := upErr_in he
    rw [if_neg (fun h => h he)]
    exact h.setSide hn ⟨cutB_ok (h.side hn).bok k hk, fun M hM => by
      obtain ⟨g1, g2, g3⟩ := (h.side hn).node M hM
      exact ⟨g1, g2, (cutB_off _ _).trans g3⟩⟩
  · rw [if_pos he]
    exact h
theorem SideOk.ruled {m : Nat} {n : Int} {s : SideS} (h : SideOk m n s) {l : List RuleS} (hl : GoodR l) : SideOk m n (s.ruled l) := by
  refine ⟨h.bok, fun M hM => ?_⟩
  obtain ⟨N, hN, rfl⟩ := Option.map_eq_some_iff.1 hM
  obtain ⟨g1, g2, g3⟩ := h.node N hN
  exact ⟨⟨g1.id, g1.n0, g1.n1, g1.role, g1.rid, g1.sil, g1.num, g1.ep, g1.li, g1.tab, g1.lif, g1.told, g1.cur, g1.mir, hl⟩, g2, g3⟩
theorem WOk.rule {m : Nat} {W : WorldS} (h : WOk m W) {l : List RuleS} (hl : GoodR l) : WOk m (W.rule l) := ⟨h.a.ruled hl, h.b.ruled hl, hl, h.fly, h.notes, h.to, h.events⟩
theorem WOk.born {l : List RuleS} (hl : GoodR l) : (newN 0 by0 l).1 = 0 ∧ (newN 1 by0 l).1 = 0 ∧ WOk 0 (.born l) := by
  have h0 : openS by0.data = ⟨0, 0, 0, false⟩ := by decide +kernel
  have hb : BOk by0 := ⟨by simp [by0], by decide, by decide⟩
  obtain ⟨a1, a2⟩ := Lived.born (id := 0) (B := by0) (rules := l) (.inl rfl) (fault_good.2 hl) ⟨hb, rfl, rfl⟩ (by rw [h0]; decide) (by rw [h0]; decide) (by rw [h0]; decide)
  obtain ⟨b1, b2⟩ := Lived.born (id := 1) (B := by0) (rules := l) (.inr rfl) (fault_good.2 hl) ⟨hb, rfl, rfl⟩ (by rw [h0]; decide) (by rw [h0]; decide) (by rw [h0]; decide)
  refine ⟨a1, b1, ⟨a2.pow.bok, fun N hN => ?_⟩, ⟨b2.pow.bok, fun N hN => ?_⟩, hl, Nat.zero_le _, (fun x hx => by cases hx), .inl rfl, Nat.zero_le _⟩
  · obtain rfl := Option.some.inj hN
    exact ⟨a2.ok, rfl, a2.pow.off⟩
  · obtain rfl := Option.some.inj hN
    exact ⟨b2.ok, rfl, b2.pow.off⟩
end Go.Proofs.YtoaghhcjlfiflaaGreatDoor

namespace Go.Proofs.YtoaghhcjlfiflaaGreatDoor
open Go Ev
theorem Ev.inF_perm {H H' : List Ent} (hp : H.Perm H') {b : Nat} (h : inF H b) : inF H' b := by
  obtain ⟨e, he, hb⟩ := h
  exact ⟨e, hp.mem_iff.1 he, hb⟩
theorem Ev.St.perm {w0 w : World} {S : Nat → Prop} {H H' : List Ent} (h : St w0 S w H) (hp : H.Perm H') : St w0 S w H' :=
  ⟨h.ext, fun e he => h.each e (hp.mem_iff.2 he), fun e he => h.loc e (hp.mem_iff.2 he), fun e he => h.may e (hp.mem_iff.2 he), (hp.pairwise_iff (fun {a b} h => apart_symm' a b h)).1 h.apart⟩
theorem Ev.Has.perm {w : World} {H H' : List Ent} (h : Has w H) (hp : H.Perm H') : Has w H' :=
  ⟨fun e he => h.each e (hp.mem_iff.2 he), fun e he => h.loc e (hp.mem_iff.2 he), fun e he => h.lt e (hp.mem_iff.2 he), (hp.pairwise_iff (fun {a b} h => apart_symm' a b h)).1 h.apart⟩
theorem Ev.Turns.perm {w w' : World} {H H' G G' : List Ent} (k : Turns w w' H G) (hp : H.Perm H') (hq : G.Perm G') : Turns w w' H' G' :=
  ⟨k.ext.mono fun _ hb => inF_perm hp hb, k.has.perm hq, fun e he b hb => (k.foot e (hq.mem_iff.2 he) b hb).imp (inF_perm hp) id⟩
theorem High.turns {w w' : World} {H H' : List Ent} {q : Nat} (h : High H q) (hq : q ≤ w.heap.size) (k : Turns w w' H H') : High H' q := fun b ⟨e, he, hb⟩ => (k.foot e he b hb).elim (h b) (fun g => Nat.le_trans hq g)
theorem High.perm {H H' : List Ent} {q : Nat} (h : High H q) (hp : H.Perm H') : High H' q := fun b hb => h b (inF_perm hp.symm hb)
theorem High.app {A B : List Ent} {q : Nat} (h : High (A ++ B) q) : High A q ∧ High B q := ⟨fun b hb => h b (inF_app.2 (.inl hb)), fun b hb => h b (inF_app.2 (.inr hb))⟩
theorem Errs.turns {w w' : World} {E : Nat → Addr} {q : Nat} {ks : List Nat} {H H' : List Ent} (h : Errs w E q ks) (hH : High H q) (k : Turns w w' H H') : Errs w' E q ks := h.ext k.ext hH
theorem size_of_high {w : World} {H : List Ent} {q b : Nat} (hH : High H q) (hw : Has w H) (hb : inF H b) : q ≤ w.heap.size := by
  have h1 := hH b hb
  obtain ⟨e, he, hb⟩ := hb
  have h2 := hw.lt e he b hb
  omega

structure SideA where
  s : Nat
  A : NodeA
structure WorldA where
  w : Nat
  a : SideA
  b : SideA
  ra : Option Addr
  rc : Nat
  fa : Option Addr
  fc : Nat
  vs : List NoteV
  ea : Option Addr
  ec : Nat
def WorldA.side (X : WorldA) (n : Int) : SideA := if n = 0 then X.a else X.b
def WorldA.setSide (X : WorldA) (n : Int) (Y : SideA) : WorldA := if n = 0 then { X with a := Y } else { X with b := Y }
def nodeP (Y : SideA) (s : SideS) : Option Addr := match s.node with | some _ => some ⟨Y.A.n, 0, none⟩ | none => none
def encSide (Y : SideA) (s : SideS) : List Value := [.pointer (nodeP Y s), .pointer (some ⟨Y.A.b, 0, none⟩)]
def encWorld (X : WorldA) (W : WorldS) : List Value := [.pointer (some ⟨X.a.s, 0, none⟩), .pointer (some ⟨X.b.s, 0, none⟩), .slice X.ra W.rules.length X.rc, .slice X.fa W.fly.length X.fc, .int .i64 W.to, .int .i64 W.epoch, .slice X.ea W.events.length X.ec]
def encEv (e : Int × Int) : List Value := [.int .i64 e.1, .int .i64 e.2]
theorem codEv : Codec 2 encEv := ⟨fun _ => rfl, fun _ => rfl, by decide⟩
def sideH (Y : SideA) (s : SideS) : List Ent := match s.node with
  | some N => nodeB Y.A N s.byt
  | none => [blk Y.A.b 143 (encBy s.byt)]
def fixH (X : WorldA) (W : WorldS) (Y Z : SideA) (s t : SideS) : List Ent := [blk X.w 96 (encWorld X W), blk Y.s 101 (encSide Y s), blk Z.s 101 (encSide Z t), ownL 92 5 encRule (.slice X.ra W.rules.length X.rc) W.rules, ownL 107 5 encNV (.slice X.fa W.fly.length X.fc) X.vs, cellsE X.vs W.fly, ownL 64 2 encEv (.slice X.ea W.events.length X.ec) W.events]
def worldH (X : WorldA) (W : WorldS) : List Ent := fixH X W X.a X.b W.a W.b ++ (sideH X.a W.a ++ sideH X.b W.b)
def viewH (X : WorldA) (W : WorldS) (n : Int) : List Ent := fixH X W (X.side n) (X.side (1 - n)) (W.side n) (W.side (1 - n)) ++ (sideH (X.side n) (W.side n) ++ sideH (X.side (1 - n)) (W.side (1 - n)))
theorem view_perm (X : WorldA) (W : WorldS) {n : Int} (hn : n = 0 ∨ n = 1) : (worldH X W).Perm (viewH X W n) := by
  rcases hn with rfl | rfl
  · exact List.Perm.refl _
  · unfold worldH viewH
    refine List.Perm.append ?_ List.perm_append_comm
    exact List.Perm.cons _ (List.Perm.swap _ _ _)
section
variable {w w' : World} {X : WorldA} {W : WorldS}
structure Stands (E : Nat → Addr) (q m : Nat) (w : World) (X : WorldA) (W : WorldS) : Prop where
  has : Has w (worldH X W)
  ok : WOk m W
  errs : Errs w E q insErrs
  high : High (worldH X W) q
variable {E : Nat → Addr} {q m : Nat}
theorem Stands.size (h : Stands E q m w X W) : q ≤ w.heap.size := size_of_high h.high h.has (b := X.w) ⟨_, List.mem_of_getElem? (i := 0) rfl, List.mem_singleton.2 rfl⟩
theorem Stands.turns {m' : Nat} {X' : WorldA} {W' : WorldS} (h : Stands E q m w X W) (k : Turns w w' (worldH X W) (worldH X' W')) (ok : WOk m' W') : Stands E q m' w' X' W' :=
  ⟨k.has, ok, h.errs.turns h.high k, h.high.turns h.size k⟩
theorem Stands.no (h : Stands E q m w X W) (hx : Ext No w w') : Stands E q m w' X W := h.turns (Turns.of_no h.has hx) h.ok
theorem Stands.view (h : Stands E q m w X W) {n : Int} (hn : n = 0 ∨ n = 1) : Has w (viewH X W n) ∧ High (viewH X W n) q := ⟨h.has.perm (view_perm X W hn), h.high.perm (view_perm X W hn)⟩
theorem Turns.unview {n : Int} (hn : n = 0 ∨ n = 1) {X' : WorldA} {W' : WorldS} (k : Turns w w' (viewH X W n) (viewH X' W' n)) : Turns w w' (worldH X W) (worldH X' W') := k.perm (view_perm X W hn).symm (view_perm X' W' hn).symm
theorem Ev.Turns.frame {A B R : List Ent} (h : Has w (A ++ R)) (k : Turns w w' A B) : Turns w w' (A ++ R) (B ++ R) := (h.start.call k).turns
def halfH (X : WorldA) (W : WorldS) (n : Int) : List Ent := fixH X W (X.side n) (X.side (1 - n)) (W.side n) (W.side (1 - n)) ++ sideH (X.side n) (W.side n)
theorem view_half (X : WorldA) (W : WorldS) (n : Int) : viewH X W n = halfH X W n ++ sideH (X.side (1 - n)) (W.side (1 - n)) := by
  unfold viewH halfH
  rw [List.append_assoc]
theorem Stands.half (h : Stands E q m w X W) {n : Int} (hn : n = 0 ∨ n = 1) : Has w (halfH X W n) ∧ High (halfH X W n) q := by
  obtain ⟨h1, h2⟩ := h.view hn
  rw [view_half] at h1 h2
  exact ⟨h1.left, h2.app.1⟩
theorem Turns.world (h : Has w (worldH X W)) {n : Int} (hn : n = 0 ∨ n = 1) {X' : WorldA} {W' : WorldS} (k : Turns w w' (halfH X W n) (halfH X' W' n)) (hx : X'.side (1 - n) = X.side (1 - n)) (hw : W'.side (1 - n) = W.side (1 - n)) : Turns w w' (worldH X W) (worldH X' W') := by
  have h1 := h.perm (view_perm X W hn)
  rw [view_half] at h1
  refine Turns.unview hn ?_
  rw [view_half, view_half, hx, hw]
  exact Turns.frame h1 k
theorem side_set {n : Int} (hn : n = 0 ∨ n = 1) (Y : SideA) (s : SideS) : (X.setSide n Y).side n = Y ∧ (X.setSide n Y).side (1 - n) = X.side (1 - n) ∧ (W.setSide n s).side n = s ∧ (W.setSide n s).side (1 - n) = W.side (1 - n) := by
  rcases hn with rfl | rfl <;> exact ⟨rfl, rfl, rfl, rfl⟩
theorem half_set {n : Int} (hn : n = 0 ∨ n = 1) {Y : SideA} (hY : Y.s = (X.side n).s) (s : SideS) : halfH (X.setSide n Y) (W.setSide n s) n = fixH X W Y (X.side (1 - n)) s (W.side (1 - n)) ++ sideH Y s := by
  rcases hn with rfl | rfl
  · show _ ++ _ = _ ++ _
    congr 1
    show [blk X.w 96 [.pointer (some ⟨Y.s, 0, none⟩), _, _, _, _, _, _], _, _, _, _, _, _] = _
    rw [hY]
    rfl
  · show _ ++ _ = _ ++ _
    congr 1
    show [blk X.w 96 [_, .pointer (some ⟨Y.s, 0, none⟩), _, _, _, _, _], _, _, _, _, _, _] = _
    rw [hY]
    rfl
theorem Turns.side (h : Has w (worldH X W)) {n : Int} (hn : n = 0 ∨ n = 1) {Y : SideA} (hY : Y.s = (X.side n).s) {s : SideS} (k : Turns w w' (halfH X W n) (fixH X W Y (X.side (1 - n)) s (W.side (1 - n)) ++ sideH Y s)) : Turns w w' (worldH X W) (worldH (X.setSide n Y) (W.setSide n s)) := by
  rw [← half_set hn hY s] at k
  exact Turns.world h hn k (side_set (W := W) hn Y s).2.1 (side_set (X := X) hn Y s).2.2.2
theorem Stands.of_half (h : Stands E q m w X W) {n : Int} (hn : n = 0 ∨ n = 1) (k : Turns w w' (halfH X W n) (halfH X W n)) : Stands E q m w' X W := h.turns (Turns.world h.has hn k rfl rfl) h.ok
theorem Ev.St.notin {w0 w : World} {S : Nat → Prop} {L : List Ent} (h : St w0 S w L) (i p n : Nat) {e : Ent} {b : Nat} (hi : L[i]? = some e) (hb : b ∈ e.foot) (hp : i < p ∨ p + n ≤ i) : ¬ inF ((L.drop p).take n) b := by
  rintro ⟨f, hf, hbf⟩
  obtain ⟨j, hj⟩ := List.getElem?_of_mem hf
  rw [List.getElem?_take] at hj
  split at hj
  · rw [List.getElem?_drop] at hj
    exact h.apartAt i (p + j) hi hj (by omega) b hb hbf
  · cases hj
end
end Go.Proofs.YtoaghhcjlfiflaaGreatDoor

namespace Go.Proofs.YtoaghhcjlfiflaaGreatDoor
open Go Ev
section
variable {w w' : World} {X : WorldA} {W : WorldS} {E : Nat → Addr} {q m : Nat}
theorem encSide_some {Y : SideA} {s : SideS} {N : NodeS} (h : s.node = some N) : encSide Y s = [.pointer (some ⟨Y.A.n, 0, none⟩), .pointer (some ⟨Y.A.b, 0, none⟩)] := by
  unfold encSide nodeP
  rw [h]
theorem encSide_none {Y : SideA} {s : SideS} (h : s.node = none) : encSide Y s = [.pointer none, .pointer (some ⟨Y.A.b, 0, none⟩)] := by
  unfold encSide nodeP
  rw [h]
theorem sideH_some {Y : SideA} {s : SideS} {N : NodeS} (h : s.node = some N) : sideH Y s = nodeB Y.A N s.byt := by
  unfold sideH
  rw [h]
theorem sideH_none {Y : SideA} {s : SideS} (h : s.node = none) : sideH Y s = [blk Y.A.b 143 (encBy s.byt)] := by
  unfold sideH
  rw [h]
theorem upErr_some {n : Int} {N : NodeS} (hn : n = 0 ∨ n = 1) (h : (W.side n).node = some N) : W.upErr n = 0 := by
  unfold WorldS.upErr
  rw [if_neg (by omega), h]
theorem upErr_none {n : Int} (hn : n = 0 ∨ n = 1) (h : (W.side n).node = none) : W.upErr n = 7 := by
  unfold WorldS.upErr
  rw [if_neg (by omega), h]
theorem wup_ok (n : Int) (h : Stands E q m w X W) : CallC Tryz.prog 54 #[.pointer (some ⟨X.w, 0, none⟩), .int .i64 n] w fun v w' => v = .tuple #[.pointer (if W.upErr n = 0 then some ⟨(X.side n).s, 0, none⟩ else none), errV E (W.upErr n)] ∧ Ext No w w' := by
  by_cases hn : n = 0 ∨ n = 1
  · obtain ⟨hV, hQ⟩ := h.view hn
    have hqF : ∀ b, inF (viewH X W n) b → q ≤ b := hQ
    cases hN : (W.side n).node with
    | none =>
      rw [upErr_none hn hN, if_neg (by decide)]
      rcases hn with rfl | rfl
      all_goals
        refine fn_intro tabOk Tryz.func54 (by kernel_rfl) rfl Tryz.ntmps54 (Nat.le_of_ble_eq_true rfl) ?_
        have hS := hV.start
        (conv => whnf)
        refine IdxC.mk (by decide) (by decide) ?_
        (conv => whnf)
        refine hS.ld 0 rfl rfl ?_
        (conv => whnf)
        refine hS.ld 1 rfl (v := .pointer none) (by rw [encSide_none hN]; rfl) ?_
        (conv => whnf)
        (refine drawS tabOk mixed [] No [0, 1, 2] (by kernel_rfl) ?_; rintro w1 rfl; replace hS := hS.drew)
        repeat' ((conv => whnf); first | refine RetC.mk ?_ | refine NzC.mk (by decide) ?_ | refine RngC.mk (by omega) (by omega) ?_ | refine IdxC.mk (by omega) (by omega) ?_ | refine hS.ldrF (h.errs.at_ 7 rfl) (Errs.out h.errs 7 rfl hqF) id ?_ | refine brD (fun _ => ?_) (fun _ => ?_) | refine brND (fun _ => ?_) (fun _ => ?_) | refine brN (fun _ => ?_) (fun _ => ?_) | refine brI (fun _ => ?_) (fun _ => ?_))
        exact ⟨rfl, Ext.drawn _ _ _⟩
    | some N =>
      rw [upErr_some hn hN, if_pos rfl]
      rcases hn with rfl | rfl
      all_goals
        refine fn_intro tabOk Tryz.func54 (by kernel_rfl) rfl Tryz.ntmps54 (Nat.le_of_ble_eq_true rfl) ?_
        have hS := hV.start
        (conv => whnf)
        refine IdxC.mk (by decide) (by decide) ?_
        (conv => whnf)
        refine hS.ld 0 rfl rfl ?_
        (conv => whnf)
        refine hS.ld 1 rfl (v := .pointer (some ⟨(X.side _).A.n, 0, none⟩)) (by rw [encSide_some hN]; rfl) ?_
        (conv => whnf)
        refine IdxC.mk (by decide) (by decide) ?_
        (conv => whnf)
        refine hS.ld 0 rfl rfl ?_
        repeat' ((conv => whnf); first | refine RetC.mk ?_ | refine NzC.mk (by decide) ?_ | refine RngC.mk (by omega) (by omega) ?_ | refine IdxC.mk (by omega) (by omega) ?_ | refine brD (fun _ => ?_) (fun _ => ?_) | refine brND (fun _ => ?_) (fun _ => ?_) | refine brN (fun _ => ?_) (fun _ => ?_) | refine brI (fun _ => ?_) (fun _ => ?_))
        exact ⟨rfl, Ext.refl _ _⟩
  · have hu : W.upErr n = 2 := if_pos (by omega)
    rw [hu, if_neg (by decide)]
    have hqF : ∀ b, inF (worldH X W) b → q ≤ b := h.high
    refine fn_intro tabOk Tryz.func54 (by kernel_rfl) rfl Tryz.ntmps54 (Nat.le_of_ble_eq_true rfl) ?_
    have hS := h.has.start
    (conv => whnf)
    refine brND (fun h1 => ?_) (fun h1 => absurd (.inl h1) hn)
    (conv => whnf)
    refine brND (fun h1 => ?_) (fun h1 => absurd (.inr h1) hn)
    (conv => whnf)
    (refine drawS tabOk mixed [] No [0, 1, 2] (by kernel_rfl) ?_; rintro w1 rfl; replace hS := hS.drew)
    repeat' ((conv => whnf); first | refine RetC.mk ?_ | refine NzC.mk (by decide) ?_ | refine RngC.mk (by omega) (by omega) ?_ | refine IdxC.mk (by omega) (by omega) ?_ | refine hS.ldrF (h.errs.at_ 2 rfl) (Errs.out h.errs 2 rfl hqF) id ?_ | refine brD (fun _ => ?_) (fun _ => ?_) | refine brND (fun _ => ?_) (fun _ => ?_) | refine brN (fun _ => ?_) (fun _ => ?_) | refine brI (fun _ => ?_) (fun _ => ?_))
    exact ⟨rfl, Ext.drawn _ _ _⟩
theorem wswitch_ok (h : Has w (worldH X W)) : CallC Tryz.prog 21 #[.pointer (some ⟨X.w, 0, none⟩)] w fun v w' => v = .tuple #[.int .i64 W.to, .int .i64 W.epoch] ∧ Ext No w w' := by
  refine fn_intro tabOk Tryz.func21 (by kernel_rfl) rfl Tryz.ntmps21 (Nat.le_of_ble_eq_true rfl) ?_
  have hS := h.start
  (conv => whnf)
  (refine drawS tabOk mixed [] No [0, 1, 2, 3, 4, 5, 6, 7, 8, 9] (by kernel_rfl) ?_; rintro w1 rfl; replace hS := hS.drew)
  repeat' ((conv => whnf); first | refine RetC.mk ?_ | refine NzC.mk (by decide) ?_ | refine RngC.mk (by omega) (by omega) ?_ | refine IdxC.mk (by omega) (by omega) ?_ | refine hS.ldF 0 rfl rfl id ?_ | refine brD (fun _ => ?_) (fun _ => ?_) | refine brND (fun _ => ?_) (fun _ => ?_) | refine brN (fun _ => ?_) (fun _ => ?_) | refine brI (fun _ => ?_) (fun _ => ?_))
  exact ⟨rfl, Ext.drawn _ _ _⟩
theorem wnode_ok (n : Int) (h : Stands E q m w X W) : CallC Tryz.prog 19 #[.pointer (some ⟨X.w, 0, none⟩), .int .i64 n] w fun v w' => v = .tuple #[.pointer (if W.upErr n = 0 then some ⟨(X.side n).A.n, 0, none⟩ else none), errV E (W.upErr n)] ∧ Ext No w w' := by
  refine fn_intro tabOk Tryz.func19 (by kernel_rfl) rfl Tryz.ntmps19 (Nat.le_of_ble_eq_true rfl) ?_
  (conv => whnf)
  refine (wup_ok n h).mono ?_
  rintro v w1 ⟨rfl, hx⟩
  by_cases hu : W.upErr n = 0
  · obtain ⟨hn, N, hN⟩ := upErr_in hu
    rw [hu, if_pos rfl, if_pos rfl]
    have hS := ((h.view hn).1.read hx).start
    (conv => whnf)
    refine hS.ld 1 rfl (v := .pointer (some ⟨(X.side n).A.n, 0, none⟩)) (by rw [encSide_some hN]; rfl) ?_
    repeat' ((conv => whnf); first | refine RetC.mk ?_ | refine NzC.mk (by decide) ?_ | refine RngC.mk (by omega) (by omega) ?_ | refine IdxC.mk (by omega) (by omega) ?_ | refine brD (fun _ => ?_) (fun _ => ?_) | refine brND (fun _ => ?_) (fun _ => ?_) | refine brN (fun _ => ?_) (fun _ => ?_) | refine brI (fun _ => ?_) (fun _ => ?_))
    exact ⟨rfl, hx⟩
  · rw [if_neg hu, if_neg hu]
    obtain ⟨j, hj⟩ : ∃ j, W.upErr n = j + 1 := ⟨W.upErr n - 1, by omega⟩
    rw [hj]
    repeat' ((conv => whnf); first | refine RetC.mk ?_ | refine NzC.mk (by decide) ?_ | refine RngC.mk (by omega) (by omega) ?_ | refine IdxC.mk (by omega) (by omega) ?_ | refine brD (fun _ => ?_) (fun _ => ?_) | refine brND (fun _ => ?_) (fun _ => ?_) | refine brN (fun _ => ?_) (fun _ => ?_) | refine brI (fun _ => ?_) (fun _ => ?_))
    exact ⟨rfl, hx⟩
theorem whand_ok (h : Stands E q m w X W) : CallC Tryz.prog 94 #[.pointer (some ⟨X.w, 0, none⟩)] w fun v w' => v = .tuple #[.pointer (if W.handErr = 0 then some ⟨(X.side W.to).s, 0, none⟩ else none), errV E W.handErr] ∧ Ext No w w' := by
  have hqF : ∀ b, inF (worldH X W) b → q ≤ b := h.high
  refine fn_intro tabOk Tryz.func94 (by kernel_rfl) rfl Tryz.ntmps94 (Nat.le_of_ble_eq_true rfl) ?_
  have hS := h.has.start
  (conv => whnf)
  refine hS.ld 0 rfl rfl ?_
  (conv => whnf)
  refine brD (fun h1 => ?_) (fun h1 => ?_)
  · have hu : W.handErr = 4 := if_pos h1
    rw [hu, if_neg (by decide)]
    (conv => whnf)
    (refine drawS tabOk mixed [] No [0, 1, 2] (by kernel_rfl) ?_; rintro w1 rfl; replace hS := hS.drew)
    repeat' ((conv => whnf); first | refine RetC.mk ?_ | refine NzC.mk (by decide) ?_ | refine RngC.mk (by omega) (by omega) ?_ | refine IdxC.mk (by omega) (by omega) ?_ | refine hS.ldrF (h.errs.at_ 4 rfl) (Errs.out h.errs 4 rfl hqF) id ?_ | refine brD (fun _ => ?_) (fun _ => ?_) | refine brND (fun _ => ?_) (fun _ => ?_) | refine brN (fun _ => ?_) (fun _ => ?_) | refine brI (fun _ => ?_) (fun _ => ?_))
    exact ⟨rfl, Ext.drawn _ _ _⟩
  · have hu : W.handErr = W.upErr W.to := if_neg h1
    rw [hu]
    (conv => whnf)
    refine hS.ld 0 rfl rfl ?_
    (conv => whnf)
    refine (wup_ok W.to h).mono ?_
    rintro v w1 ⟨rfl, hx⟩
    repeat' ((conv => whnf); first | refine RetC.mk ?_ | refine NzC.mk (by decide) ?_ | refine RngC.mk (by omega) (by omega) ?_ | refine IdxC.mk (by omega) (by omega) ?_ | refine brD (fun _ => ?_) (fun _ => ?_) | refine brND (fun _ => ?_) (fun _ => ?_) | refine brN (fun _ => ?_) (fun _ => ?_) | refine brI (fun _ => ?_) (fun _ => ?_))
    exact ⟨rfl, hx⟩
theorem wat_ok (k : Int) (h : Stands E q m w X W) : CallC Tryz.prog 52 #[.pointer (some ⟨X.w, 0, none⟩), .int .i64 k] w fun v w' => v = errV E (W.at_ k) ∧ Ext No w w' := by
  have hqF : ∀ b, inF (worldH X W) b → q ≤ b := h.high
  refine fn_intro tabOk Tryz.func52 (by kernel_rfl) rfl Tryz.ntmps52 (Nat.le_of_ble_eq_true rfl) ?_
  have hS := h.has.start
  (conv => whnf)
  refine brD (fun h1 => ?_) (fun h1 => ?_)
  · have hu : W.at_ k = 4 := if_pos (.inl h1)
    rw [hu]
    repeat' ((conv => whnf); first | refine RetC.mk ?_ | refine NzC.mk (by decide) ?_ | refine RngC.mk (by omega) (by omega) ?_ | refine IdxC.mk (by omega) (by omega) ?_ | refine hS.ldr (h.errs.at_ 4 rfl) (Errs.out h.errs 4 rfl hqF) ?_ | refine brD (fun _ => ?_) (fun _ => ?_) | refine brND (fun _ => ?_) (fun _ => ?_) | refine brN (fun _ => ?_) (fun _ => ?_) | refine brI (fun _ => ?_) (fun _ => ?_))
    exact ⟨rfl, Ext.refl _ _⟩
  (conv => whnf)
  refine hS.ld 0 rfl rfl ?_
  (conv => whnf)
  refine brD (fun h2 => ?_) (fun h2 => ?_)
  · have hu : W.at_ k = 4 := if_pos (.inr h2)
    rw [hu]
    repeat' ((conv => whnf); first | refine RetC.mk ?_ | refine NzC.mk (by decide) ?_ | refine RngC.mk (by omega) (by omega) ?_ | refine IdxC.mk (by omega) (by omega) ?_ | refine hS.ldr (h.errs.at_ 4 rfl) (Errs.out h.errs 4 rfl hqF) ?_ | refine brD (fun _ => ?_) (fun _ => ?_) | refine brND (fun _ => ?_) (fun _ => ?_) | refine brN (fun _ => ?_) (fun _ => ?_) | refine brI (fun _ => ?_) (fun _ => ?_))
    exact ⟨rfl, Ext.refl _ _⟩
  · have hu : W.at_ k = 0 := if_neg (by omega)
    rw [hu]
    repeat' ((conv => whnf); first | refine RetC.mk ?_ | refine NzC.mk (by decide) ?_ | refine RngC.mk (by omega) (by omega) ?_ | refine IdxC.mk (by omega) (by omega) ?_ | refine brD (fun _ => ?_) (fun _ => ?_) | refine brND (fun _ => ?_) (fun _ => ?_) | refine brN (fun _ => ?_) (fun _ => ?_) | refine brI (fun _ => ?_) (fun _ => ?_))
    exact ⟨rfl, Ext.refl _ _⟩
end
end Go.Proofs.YtoaghhcjlfiflaaGreatDoor

namespace Go.Proofs.YtoaghhcjlfiflaaGreatDoor
open Go Ev
section
variable {w w' : World} {X : WorldA} {W : WorldS} {E : Nat → Addr} {q m : Nat}
theorem half_some {n : Int} {N : NodeS} (h : (W.side n).node = some N) : halfH X W n = fixH X W (X.side n) (X.side (1 - n)) (W.side n) (W.side (1 - n)) ++ nodeB (X.side n).A N (W.side n).byt := by
  unfold halfH
  rw [sideH_some h]
theorem fix_some {n : Int} {N : NodeS} {Y Z : SideA} {t : SideS} (h : (W.side n).node = some N) : fixH X W Y Z (W.side n) t = fixH X W Y Z ⟨some N, (W.side n).byt⟩ t := by
  unfold fixH
  rw [encSide_some h, encSide_some (s := ⟨some N, (W.side n).byt⟩) rfl]
theorem fix_none {n : Int} {Y Z : SideA} {t : SideS} (h : (W.side n).node = none) : fixH X W Y Z (W.side n) t = fixH X W Y Z ⟨none, (W.side n).byt⟩ t := by
  unfold fixH
  rw [encSide_none h, encSide_none (s := ⟨none, (W.side n).byt⟩) rfl]
theorem half_up {n : Int} {N : NodeS} (h : (W.side n).node = some N) : halfH X W n = fixH X W (X.side n) (X.side (1 - n)) ⟨some N, (W.side n).byt⟩ (W.side (1 - n)) ++ nodeB (X.side n).A N (W.side n).byt := by
  rw [half_some h, fix_some h]
theorem half_down {n : Int} (h : (W.side n).node = none) : halfH X W n = fixH X W (X.side n) (X.side (1 - n)) ⟨none, (W.side n).byt⟩ (W.side (1 - n)) ++ [blk (X.side n).A.b 143 (encBy (W.side n).byt)] := by
  unfold halfH
  rw [sideH_none h, fix_none h]
theorem setSide_id {n : Int} (hn : n = 0 ∨ n = 1) : X.setSide n (X.side n) = X := by
  rcases hn with rfl | rfl <;> rfl
theorem wdown_ok (n : Int) (h : Stands E q m w X W) : CallC Tryz.prog 15 #[.pointer (some ⟨X.w, 0, none⟩), .int .i64 n] w fun v w' => v = errV E (W.down n).1 ∧ Turns w w' (worldH X W) (worldH X (W.down n).2) := by
  refine fn_intro tabOk Tryz.func15 (by kernel_rfl) rfl Tryz.ntmps15 (Nat.le_of_ble_eq_true rfl) ?_
  (conv => whnf)
  refine (wup_ok n h).mono ?_
  rintro v w1 ⟨rfl, hx⟩
  by_cases hu : W.upErr n = 0
  case neg =>
    obtain ⟨j, hj⟩ : ∃ j, W.upErr n = j + 1 := ⟨W.upErr n - 1, by omega⟩
    rw [show W.down n = (W.upErr n, W) from if_pos hu, hj]
    repeat' ((conv => whnf); first | refine RetC.mk ?_ | refine NzC.mk (by decide) ?_ | refine RngC.mk (by omega) (by omega) ?_ | refine IdxC.mk (by omega) (by omega) ?_ | refine brD (fun _ => ?_) (fun _ => ?_) | refine brND (fun _ => ?_) (fun _ => ?_) | refine brN (fun _ => ?_) (fun _ => ?_) | refine brI (fun _ => ?_) (fun _ => ?_))
    exact ⟨rfl, Turns.of_no h.has hx⟩
  obtain ⟨hn, N, hN⟩ := upErr_in hu
  rw [show W.down n = (0, W.setSide n ⟨none, { (W.side n).byt with off := true }⟩) from if_neg (fun h => h hu), hu, if_pos rfl]
  have hBk := (h.ok.side hn).bok
  have hH := (h.half hn).1
  have hT : ∀ {w'}, Turns w w' (halfH X W n) (fixH X W (X.side n) (X.side (1 - n)) ⟨none, { (W.side n).byt with off := true }⟩ (W.side (1 - n)) ++ [blk (X.side n).A.b 143 (encBy { (W.side n).byt with off := true })]) → Turns w w' (worldH X W) (worldH X (W.setSide n ⟨none, { (W.side n).byt with off := true }⟩)) := fun k => by
    have := Turns.side h.has hn (Y := X.side n) rfl (s := ⟨none, { (W.side n).byt with off := true }⟩) k
    rwa [setSide_id hn] at this
  have hS := hH.start.no hx
  rw [half_up hN] at hS hT
  generalize W.setSide n ⟨none, { (W.side n).byt with off := true }⟩ = W' at hT ⊢
  generalize (W.side n).byt = B at hS hT hBk ⊢
  clear hH hx
  (conv => whnf)
  refine hS.ld 1 rfl rfl ?_
  (conv => whnf)
  refine (boff_ok (hS.blk 14 rfl) hBk.len).mono ?_
  rintro v w' ⟨hx, hB⟩
  replace hS := hS.upd 14 rfl hx (fun c hc => by subst hc; exact List.mem_singleton.2 rfl) (blk_local _ _ _) hB (fun c hc => .inl hc)
  (conv => whnf)
  refine hS.st 1 rfl (Nat.le_of_ble_eq_true rfl) rfl (fun w' hS => ?_)
  repeat' ((conv => whnf); first | refine RetC.mk ?_ | refine NzC.mk (by decide) ?_ | refine RngC.mk (by omega) (by omega) ?_ | refine IdxC.mk (by omega) (by omega) ?_ | refine brD (fun _ => ?_) (fun _ => ?_) | refine brND (fun _ => ?_) (fun _ => ?_) | refine brN (fun _ => ?_) (fun _ => ?_) | refine brI (fun _ => ?_) (fun _ => ?_))
  exact ⟨rfl, hT (St.turns (hS.sel [0, 1, 2, 3, 4, 5, 6, 14] (by decide)))⟩
theorem wcut_ok (n k : Int) (h : Stands E q m w X W) : CallC Tryz.prog 47 #[.pointer (some ⟨X.w, 0, none⟩), .int .i64 n, .int .i64 k] w fun v w' => v = errV E (W.cut n k).1 ∧ Turns w w' (worldH X W) (worldH X (W.cut n k).2) := by
  refine fn_intro tabOk Tryz.func47 (by kernel_rfl) rfl Tryz.ntmps47 (Nat.le_of_ble_eq_true rfl) ?_
  (conv => whnf)
  refine (wup_ok n h).mono ?_
  rintro v w1 ⟨rfl, hx⟩
  by_cases hu : W.upErr n = 0
  case neg =>
    obtain ⟨j, hj⟩ : ∃ j, W.upErr n = j + 1 := ⟨W.upErr n - 1, by omega⟩
    rw [show W.cut n k = (W.upErr n, W) from if_pos hu, hj]
    repeat' ((conv => whnf); first | refine RetC.mk ?_ | refine NzC.mk (by decide) ?_ | refine RngC.mk (by omega) (by omega) ?_ | refine IdxC.mk (by omega) (by omega) ?_ | refine brD (fun _ => ?_) (fun _ => ?_) | refine brND (fun _ => ?_) (fun _ => ?_) | refine brN (fun _ => ?_) (fun _ => ?_) | refine brI (fun _ => ?_) (fun _ => ?_))
    exact ⟨rfl, Turns.of_no h.has hx⟩
  obtain ⟨hn, N, hN⟩ := upErr_in hu
  rw [show W.cut n k = (cutE (W.side n).byt k, W.setSide n ⟨(W.side n).node, cutB (W.side n).byt k⟩) from if_neg (fun h => h hu), hu, if_pos rfl, hN]
  have hBk := (h.ok.side hn).bok
  obtain ⟨hH, hQ⟩ := h.half hn
  have hT : ∀ {w'}, Turns w w' (halfH X W n) (fixH X W (X.side n) (X.side (1 - n)) ⟨some N, cutB (W.side n).byt k⟩ (W.side (1 - n)) ++ nodeB (X.side n).A N (cutB (W.side n).byt k)) → Turns w w' (worldH X W) (worldH X (W.setSide n ⟨some N, cutB (W.side n).byt k⟩)) := fun k => by
    have := Turns.side h.has hn (Y := X.side n) rfl k
    rwa [setSide_id hn] at this
  have hS := hH.start.no hx
  have hE := h.errs.ext hS.ext hQ
  rw [half_up hN] at hS hT hQ
  generalize W.setSide n ⟨some N, cutB (W.side n).byt k⟩ = W' at hT ⊢
  generalize (W.side n).byt = B at hS hT hBk hQ ⊢
  clear hH hx
  have hq : q ≤ (X.side n).A.b := hQ _ ⟨_, List.mem_of_getElem? (i := 14) rfl, List.mem_singleton.2 rfl⟩
  (conv => whnf)
  refine hS.ld 1 rfl rfl ?_
  (conv => whnf)
  refine (bcut_ok k (hS.blk 14 rfl) hBk.len (hE.sub rfl) hq).mono ?_
  rintro v w' ⟨rfl, hx, hB⟩
  replace hS := hS.upd 14 rfl hx (fun c hc => by subst hc; exact List.mem_singleton.2 rfl) (blk_local _ _ _) hB (fun c hc => .inl hc)
  repeat' ((conv => whnf); first | refine RetC.mk ?_ | refine NzC.mk (by decide) ?_ | refine RngC.mk (by omega) (by omega) ?_ | refine IdxC.mk (by omega) (by omega) ?_ | refine brD (fun _ => ?_) (fun _ => ?_) | refine brND (fun _ => ?_) (fun _ => ?_) | refine brN (fun _ => ?_) (fun _ => ?_) | refine brI (fun _ => ?_) (fun _ => ?_))
  exact ⟨rfl, hT (St.turns hS)⟩
theorem winside_ok (p : PktS) (h : Stands E q m w X W) (hm : m + 1 ≤ 50000000) : CallC Tryz.prog 48 #[.pointer (some ⟨X.w, 0, none⟩), .agg (encPkt p).toArray] w fun v w' => v = .tuple #[.agg (encPkt (W.inside p).2.1).toArray, errV E (W.inside p).1] ∧ Turns w w' (worldH X W) (worldH X (W.inside p).2.2) := by
  by_cases hu : W.handErr = 0
  case neg =>
    obtain ⟨j, hj⟩ : ∃ j, W.handErr = j + 1 := ⟨W.handErr - 1, by omega⟩
    rw [show W.inside p = (W.handErr, noPkt, W) from if_pos hu]
    refine fn_intro tabOk Tryz.func48 (by kernel_rfl) rfl Tryz.ntmps48 (Nat.le_of_ble_eq_true rfl) ?_
    have hS := St.start w No
    (conv => whnf)
    refine hS.new (fun bp w1 hbp hS => ?_)
    (conv => whnf)
    refine hS.new (fun br w2 hbr hS => ?_)
    replace hS : St w No w2 [blk bp 36 (encPkt p), blk br 36 (encPkt noPkt)] := hS
    (conv => whnf)
    refine (whand_ok (h.no hS.ext)).mono ?_
    rintro v w3 ⟨rfl, hx⟩
    replace hS := hS.no hx
    rw [hj]
    (conv => whnf)
    refine hS.st 1 rfl (Nat.le_of_ble_eq_true rfl) rfl (fun w' hS => ?_)
    (conv => whnf)
    refine hS.laX 1 rfl rfl ?_
    repeat' ((conv => whnf); first | refine RetC.mk ?_ | refine NzC.mk (by decide) ?_ | refine RngC.mk (by omega) (by omega) ?_ | refine IdxC.mk (by omega) (by omega) ?_ | refine brD (fun _ => ?_) (fun _ => ?_) | refine brND (fun _ => ?_) (fun _ => ?_) | refine brN (fun _ => ?_) (fun _ => ?_) | refine brI (fun _ => ?_) (fun _ => ?_))
    exact ⟨rfl, Turns.of_no h.has hS.ext⟩
  obtain ⟨hn, N, hN⟩ := h.ok.hand hu
  have hnk := ((h.ok.side hn).node N hN).1
  have hw : W.inside p = ((N.inside p).1, (N.inside p).2.1, W.setSide W.to ⟨some (N.inside p).2.2, (W.side W.to).byt⟩) := by
    unfold WorldS.inside
    rw [if_neg (fun h => h hu), hN]
  rw [hw]
  obtain ⟨hH, hQ⟩ := h.half hn
  have hT : ∀ {w'}, Turns w w' (halfH X W W.to) (fixH X W (X.side W.to) (X.side (1 - W.to)) ⟨some (N.inside p).2.2, (W.side W.to).byt⟩ (W.side (1 - W.to)) ++ nodeB (X.side W.to).A (N.inside p).2.2 (W.side W.to).byt) → Turns w w' (worldH X W) (worldH X (W.setSide W.to ⟨some (N.inside p).2.2, (W.side W.to).byt⟩)) := fun k => by
    have := Turns.side h.has hn (Y := X.side W.to) rfl k
    rwa [setSide_id hn] at this
  refine fn_intro tabOk Tryz.func48 (by kernel_rfl) rfl Tryz.ntmps48 (Nat.le_of_ble_eq_true rfl) ?_
  have hS := hH.start
  rw [half_up hN] at hS
  (conv => whnf)
  refine hS.new (fun bp w1 hbp hS => ?_)
  (conv => whnf)
  refine hS.new (fun br w2 hbr hS => ?_)
  have hst : Stands E q m w2 X W := h.of_half hn (by rw [half_up hN]; exact (hS.keep 15).turns)
  (conv => whnf)
  refine (whand_ok hst).mono ?_
  rintro v w3 ⟨rfl, hx⟩
  replace hS := hS.no hx
  rw [hu, if_pos rfl]
  rw [half_up hN] at hT hQ
  have hE := h.errs.ext hS.ext hQ
  have hQ' : High (nodeH (X.side W.to).A N) q := hQ.app.2.app.1
  have hs := hS.notin 1 7 7 rfl (List.mem_singleton.2 rfl) (.inl (by decide))
  have hp := hS.notin 15 7 7 rfl (List.mem_singleton.2 rfl) (.inr (by decide))
  have hs2 := hS.ne 1 16 rfl rfl (by decide)
  have hp2 := hS.ne 15 16 rfl rfl (by decide)
  generalize W.setSide W.to ⟨some (N.inside p).2.2, (W.side W.to).byt⟩ = W' at hT ⊢
  clear hst hx
  (conv => whnf)
  (refine drawS tabOk mixed [] (fun b => inF (nodeH (X.side W.to).A N) b ∨ b = br) [0, 1, 2, 3, 4, 5, 6, 7, 8, 9] (by kernel_rfl) ?_; rintro w1 rfl; replace hS := hS.drew)
  have hK := hS.ref (fun b => inF (nodeH (X.side W.to).A N) b ∨ b = br)
  (conv => whnf)
  refine hS.ldF 1 rfl (v := .pointer (some ⟨(X.side W.to).A.n, 0, none⟩)) rfl (fun h => h.elim hs hs2) ?_
  (conv => whnf)
  refine hS.laXF 15 rfl rfl (fun h => h.elim hp hp2) ?_
  (conv => whnf)
  have hw3 : Has _ (nodeH (X.side W.to).A N) := Has.left (B := [_, _, _]) (Has.right (A := [_, _, _, _, _, _, _]) hS.has)
  refine (ninside_ok p hw3 hnk hm (hE.ext (Ext.drawn No _ _) fun _ h => h.elim) hQ').mono ?_
  rintro v w' ⟨rfl, hk⟩
  replace hS := St.callAt (A := fixH X W (X.side W.to) (X.side (1 - W.to)) ⟨some N, (W.side W.to).byt⟩ (W.side (1 - W.to))) (B := [_, _, _]) hS hk
  replace hK := hK.trans (hk.ext.mono fun b hb => .inl hb)
  refine KeepC.mk hK ?_
  (conv => whnf)
  refine hS.stK hK 16 rfl (Nat.le_of_ble_eq_true rfl) rfl (.inr rfl) (fun w' hK hS => KeepC.mk hK ?_)
  (conv => whnf)
  refine hS.laX 16 rfl rfl ?_
  repeat' ((conv => whnf); first | refine RetC.mk ?_ | refine NzC.mk (by decide) ?_ | refine RngC.mk (by omega) (by omega) ?_ | refine IdxC.mk (by omega) (by omega) ?_ | refine brD (fun _ => ?_) (fun _ => ?_) | refine brND (fun _ => ?_) (fun _ => ?_) | refine brN (fun _ => ?_) (fun _ => ?_) | refine brI (fun _ => ?_) (fun _ => ?_))
  exact ⟨rfl, hT (hS.keep 15).turns⟩
theorem woutside_ok (p : PktS) (h : Stands E q m w X W) (hm : m + 1 ≤ 50000000) : CallC Tryz.prog 49 #[.pointer (some ⟨X.w, 0, none⟩), .agg (encPkt p).toArray] w fun v w' => v = .tuple #[.agg (encPkt (W.outside p).2.1).toArray, errV E (W.outside p).1] ∧ Turns w w' (worldH X W) (worldH X (W.outside p).2.2) := by
  by_cases hu : W.handErr = 0
  case neg =>
    obtain ⟨j, hj⟩ : ∃ j, W.handErr = j + 1 := ⟨W.handErr - 1, by omega⟩
    rw [show W.outside p = (W.handErr, noPkt, W) from if_pos hu]
    refine fn_intro tabOk Tryz.func49 (by kernel_rfl) rfl Tryz.ntmps49 (Nat.le_of_ble_eq_true rfl) ?_
    have hS := St.start w No
    (conv => whnf)
    refine hS.new (fun bp w1 hbp hS => ?_)
    (conv => whnf)
    refine hS.new (fun br w2 hbr hS => ?_)
    replace hS : St w No w2 [blk bp 36 (encPkt p), blk br 36 (encPkt noPkt)] := hS
    (conv => whnf)
    refine (whand_ok (h.no hS.ext)).mono ?_
    rintro v w3 ⟨rfl, hx⟩
    replace hS := hS.no hx
    rw [hj]
    (conv => whnf)
    refine hS.st 1 rfl (Nat.le_of_ble_eq_true rfl) rfl (fun w' hS => ?_)
    (conv => whnf)
    refine hS.laX 1 rfl rfl ?_
    repeat' ((conv => whnf); first | refine RetC.mk ?_ | refine NzC.mk (by decide) ?_ | refine RngC.mk (by omega) (by omega) ?_ | refine IdxC.mk (by omega) (by omega) ?_ | refine brD (fun _ => ?_) (fun _ => ?_) | refine brND (fun _ => ?_) (fun _ => ?_) | refine brN (fun _ => ?_) (fun _ => ?_) | refine brI (fun _ => ?_) (fun _ => ?_))
    exact ⟨rfl, Turns.of_no h.has hS.ext⟩
  obtain ⟨hn, N, hN⟩ := h.ok.hand hu
  have hnk := ((h.ok.side hn).node N hN).1
  have hw : W.outside p = ((N.outside p).1, (N.outside p).2.1, W.setSide W.to ⟨some (N.outside p).2.2, (W.side W.to).byt⟩) := by
    unfold WorldS.outside
    rw [if_neg (fun h => h hu), hN]
  rw [hw]
  obtain ⟨hH, hQ⟩ := h.half hn
  have hT : ∀ {w'}, Turns w w' (halfH X W W.to) (fixH X W (X.side W.to) (X.side (1 - W.to)) ⟨some (N.outside p).2.2, (W.side W.to).byt⟩ (W.side (1 - W.to)) ++ nodeB (X.side W.to).A (N.outside p).2.2 (W.side W.to).byt) → Turns w w' (worldH X W) (worldH X (W.setSide W.to ⟨some (N.outside p).2.2, (W.side W.to).byt⟩)) := fun k => by
    have := Turns.side h.has hn (Y := X.side W.to) rfl k
    rwa [setSide_id hn] at this
  refine fn_intro tabOk Tryz.func49 (by kernel_rfl) rfl Tryz.ntmps49 (Nat.le_of_ble_eq_true rfl) ?_
  have hS := hH.start
  rw [half_up hN] at hS
  (conv => whnf)
  refine hS.new (fun bp w1 hbp hS => ?_)
  (conv => whnf)
  refine hS.new (fun br w2 hbr hS => ?_)
  have hst : Stands E q m w2 X W := h.of_half hn (by rw [half_up hN]; exact (hS.keep 15).turns)
  (conv => whnf)
  refine (whand_ok hst).mono ?_
  rintro v w3 ⟨rfl, hx⟩
  replace hS := hS.no hx
  rw [hu, if_pos rfl]
  rw [half_up hN] at hT hQ
  have hE := h.errs.ext hS.ext hQ
  have hQ' : High (nodeH (X.side W.to).A N) q := hQ.app.2.app.1
  have hs := hS.notin 1 7 7 rfl (List.mem_singleton.2 rfl) (.inl (by decide))
  have hp := hS.notin 15 7 7 rfl (List.mem_singleton.2 rfl) (.inr (by decide))
  have hs2 := hS.ne 1 16 rfl rfl (by decide)
  have hp2 := hS.ne 15 16 rfl rfl (by decide)
  generalize W.setSide W.to ⟨some (N.outside p).2.2, (W.side W.to).byt⟩ = W' at hT ⊢
  clear hst hx
  (conv => whnf)
  (refine drawS tabOk mixed [] (fun b => inF (nodeH (X.side W.to).A N) b ∨ b = br) [0, 1, 2, 3, 4, 5, 6, 7, 8, 9] (by kernel_rfl) ?_; rintro w1 rfl; replace hS := hS.drew)
  have hK := hS.ref (fun b => inF (nodeH (X.side W.to).A N) b ∨ b = br)
  (conv => whnf)
  refine hS.ldF 1 rfl (v := .pointer (some ⟨(X.side W.to).A.n, 0, none⟩)) rfl (fun h => h.elim hs hs2) ?_
  (conv => whnf)
  refine hS.laXF 15 rfl rfl (fun h => h.elim hp hp2) ?_
  (conv => whnf)
  have hw3 : Has _ (nodeH (X.side W.to).A N) := Has.left (B := [_, _, _]) (Has.right (A := [_, _, _, _, _, _, _]) hS.has)
  refine (noutside_ok p hw3 hnk hm (hE.ext (Ext.drawn No _ _) fun _ h => h.elim) hQ').mono ?_
  rintro v w' ⟨rfl, hk⟩
  replace hS := St.callAt (A := fixH X W (X.side W.to) (X.side (1 - W.to)) ⟨some N, (W.side W.to).byt⟩ (W.side (1 - W.to))) (B := [_, _, _]) hS hk
  replace hK := hK.trans (hk.ext.mono fun b hb => .inl hb)
  refine KeepC.mk hK ?_
  (conv => whnf)
  refine hS.stK hK 16 rfl (Nat.le_of_ble_eq_true rfl) rfl (.inr rfl) (fun w' hK hS => KeepC.mk hK ?_)
  (conv => whnf)
  refine hS.laX 16 rfl rfl ?_
  repeat' ((conv => whnf); first | refine RetC.mk ?_ | refine NzC.mk (by decide) ?_ | refine RngC.mk (by omega) (by omega) ?_ | refine IdxC.mk (by omega) (by omega) ?_ | refine brD (fun _ => ?_) (fun _ => ?_) | refine brND (fun _ => ?_) (fun _ => ?_) | refine brN (fun _ => ?_) (fun _ => ?_) | refine brI (fun _ => ?_) (fun _ => ?_))
  exact ⟨rfl, hT (hS.keep 15).turns⟩
end
end Go.Proofs.YtoaghhcjlfiflaaGreatDoor

namespace Go.Proofs.YtoaghhcjlfiflaaGreatDoor
open Go Ev
section
variable {w w' : World} {X : WorldA} {W : WorldS} {E : Nat → Addr} {q m : Nat}
theorem Stands.fix (h : Stands E q m w X W) : Has w (fixH X W X.a X.b W.a W.b) ∧ High (fixH X W X.a X.b W.a W.b) q := ⟨h.has.left, h.high.app.1⟩
theorem Turns.fixed (h : Has w (worldH X W)) {X' : WorldA} {W' : WorldS} (k : Turns w w' (fixH X W X.a X.b W.a W.b) (fixH X' W' X.a X.b W.a W.b)) (ha : X'.a = X.a) (hb : X'.b = X.b) (ka : W'.a = W.a) (kb : W'.b = W.b) : Turns w w' (worldH X W) (worldH X' W') := by
  unfold worldH
  rw [ha, hb, ka, kb]
  exact Turns.frame h k
theorem at_in {W : WorldS} {k : Int} (h : W.at_ k = 0) : ∃ i : Nat, k = i ∧ i < W.fly.length := by
  unfold WorldS.at_ at h
  split at h
  · exact absurd h (by decide)
  · exact ⟨k.toNat, by omega, by omega⟩
theorem ownB_slice {α : Type} {e : TypeId} {sz : Nat} {enc : α → List Value} {a : Option Addr} {n c n' c' : Nat} {xs ys : List α} {b : Nat} (h : b ∈ (ownL e sz enc (.slice a n c) xs).foot) : b ∈ (ownL e sz enc (.slice a n' c') ys).foot := by
  cases a with
  | none => simp [ownL, own, Value.ownBlock] at h
  | some a => simpa [ownL, own, Value.ownBlock] using h
theorem foot_own {α : Type} {e : TypeId} {sz : Nat} {enc : α → List Value} {v : Value} {xs : List α} {b : Nat} (h : v.ownBlock = some b) : b ∈ (ownL e sz enc v xs).foot := by simp [ownL, own, h]
theorem erase_foot {vs : List NoteV} {ns : List NoteS} {k b : Nat} (h : b ∈ (cellsE (vs.eraseIdx k) (ns.eraseIdx k)).foot) : b ∈ (cellsE vs ns).foot := by
  obtain ⟨x, hx, hb⟩ := cellsE_foot.1 h
  exact cellsE_foot.2 ⟨x, List.mem_of_mem_eraseIdx hx, hb⟩
def WorldA.off (X : WorldA) (i : Nat) : WorldA := { X with vs := X.vs.eraseIdx i }
theorem St.takeOff {w0 w w' : World} {S : Nat → Prop} {Y Z : SideA} {s t : SideS} {B : List Ent} {i : Nat} (hS : St w0 S w (fixH X W Y Z s t ++ B)) (hi : i < X.vs.length) (hx : Ext (fun b => (Value.slice X.fa X.vs.length X.fc).ownBlock = some b) w w') (ho : (ownL 107 5 encNV (.slice X.fa (X.vs.length - 1) X.fc) (X.vs.eraseIdx i)).holds w') :
    St w0 S w' ([blk X.w 96 (encWorld X W), blk Y.s 101 (encSide Y s), blk Z.s 101 (encSide Z t), ownL 92 5 encRule (.slice X.ra W.rules.length X.rc) W.rules, ownL 107 5 encNV (.slice X.fa (W.fly.eraseIdx i).length X.fc) (X.vs.eraseIdx i), cellsE (X.vs.eraseIdx i) (W.fly.eraseIdx i), ownL 64 2 encEv (.slice X.ea W.events.length X.ec) W.events] ++ B) := by
  have hc : (cellsE X.vs W.fly).holds w := hS.get 5 rfl
  have hl : X.vs.length = W.fly.length := hc.1
  have hle : (W.fly.eraseIdx i).length = X.vs.length - 1 := by rw [List.length_eraseIdx, if_pos (by omega), hl]
  rw [hle]
  have h1 := hS.upd 4 rfl hx (fun b hb => foot_own (by rw [hl] at hb; exact hb)) ownL_local ho (fun b hb => .inl (ownB_slice hb))
  have hc1 : (cellsE X.vs W.fly).holds w' := h1.get 5 rfl
  exact h1.upd 5 rfl (T := No) (Ext.refl _ _) (fun _ h => h.elim) cellsE_local (cellsE_erase hc1 i) (fun b hb => .inl (erase_foot hb))
theorem wdrop_ok (k : Int) (h : Stands E q m w X W) : CallC Tryz.prog 14 #[.pointer (some ⟨X.w, 0, none⟩), .int .i64 k] w fun v w' => v = errV E (W.drop k).1 ∧ ∃ X', X'.w = X.w ∧ Turns w w' (worldH X W) (worldH X' (W.drop k).2) := by
  refine fn_intro tabOk Tryz.func14 (by kernel_rfl) rfl Tryz.ntmps14 (Nat.le_of_ble_eq_true rfl) ?_
  (conv => whnf)
  refine (wat_ok k h).mono ?_
  rintro v w1 ⟨rfl, hx⟩
  by_cases hu : W.at_ k = 0
  case neg =>
    obtain ⟨j, hj⟩ : ∃ j, W.at_ k = j + 1 := ⟨W.at_ k - 1, by omega⟩
    rw [show W.drop k = (W.at_ k, W) from if_pos hu, hj]
    repeat' ((conv => whnf); first | refine RetC.mk ?_ | refine NzC.mk (by decide) ?_ | refine RngC.mk (by omega) (by omega) ?_ | refine IdxC.mk (by omega) (by omega) ?_ | refine brD (fun _ => ?_) (fun _ => ?_) | refine brND (fun _ => ?_) (fun _ => ?_) | refine brN (fun _ => ?_) (fun _ => ?_) | refine brI (fun _ => ?_) (fun _ => ?_))
    exact ⟨rfl, X, rfl, Turns.of_no h.has hx⟩
  rw [show W.drop k = (0, W.off k) from if_neg (fun h => h hu), hu]
  obtain ⟨i, rfl, hi⟩ := at_in hu
  have hflen := h.ok.fly
  have hT : ∀ {w'}, Turns w w' (fixH X W X.a X.b W.a W.b) (fixH (X.off i) (W.off i) X.a X.b W.a W.b) → Turns w w' (worldH X W) (worldH (X.off i) (W.off i)) := fun k => Turns.fixed h.has k rfl rfl rfl rfl
  have hS := h.fix.1.start.no hx
  have hc : (cellsE X.vs W.fly).holds w1 := hS.get 5 rfl
  have hl : X.vs.length = W.fly.length := hc.1
  have hrow : (ownL 107 5 encNV (.slice X.fa X.vs.length X.fc) X.vs).holds w1 := by rw [hl]; exact hS.get 4 rfl
  clear hx
  (conv => whnf)
  refine hS.ld 0 rfl rfl ?_
  (conv => whnf)
  refine RngC.mk (by omega) (by omega) ?_
  rw [← hl]
  (conv => whnf)
  refine (ndel_ok hrow (by omega) (by omega)).mono ?_
  rintro v w2 ⟨rfl, hx, ho⟩
  replace hS := St.takeOff (B := []) hS (by omega) hx ho
  rw [show X.vs.length - 1 = (W.fly.eraseIdx i).length by rw [List.length_eraseIdx, if_pos hi, hl]]
  (conv => whnf)
  refine hS.st 0 rfl (Nat.le_of_ble_eq_true rfl) rfl (fun w' hS => ?_)
  repeat' ((conv => whnf); first | refine RetC.mk ?_ | refine NzC.mk (by decide) ?_ | refine RngC.mk (by omega) (by omega) ?_ | refine IdxC.mk (by omega) (by omega) ?_ | refine brD (fun _ => ?_) (fun _ => ?_) | refine brND (fun _ => ?_) (fun _ => ?_) | refine brN (fun _ => ?_) (fun _ => ?_) | refine brI (fun _ => ?_) (fun _ => ?_))
  exact ⟨rfl, X.off i, rfl, hT (St.turns hS)⟩
theorem Ev.St.join {w0 w : World} {S : Nat → Prop} {H : List Ent} {e f g : Ent} (h : St w0 S w (e :: f :: H)) (hl : g.Local) (hh : g.holds w) (hf : ∀ b ∈ g.foot, b ∈ e.foot ∨ b ∈ f.foot) : St w0 S w (g :: H) := by
  have hap := List.pairwise_cons.1 h.apart
  have hap2 := List.pairwise_cons.1 hap.2
  have hm : ∀ x ∈ H, x ∈ e :: f :: H := fun x hx => List.mem_cons_of_mem _ (List.mem_cons_of_mem _ hx)
  refine ⟨h.ext, ?_, ?_, ?_, .cons ?_ hap2.2⟩
  · intro x hx
    rcases List.mem_cons.1 hx with rfl | hx
    · exact hh
    · exact h.each x (hm x hx)
  · intro x hx
    rcases List.mem_cons.1 hx with rfl | hx
    · exact hl
    · exact h.loc x (hm x hx)
  · intro x hx b hb
    rcases List.mem_cons.1 hx with rfl | hx
    · rcases hf b hb with h1 | h1
      · exact h.may e List.mem_cons_self b h1
      · exact h.may f (List.mem_cons_of_mem _ List.mem_cons_self) b h1
    · exact h.may x (hm x hx) b hb
  · intro x hx b hb
    rcases hf b hb with h1 | h1
    · exact hap.1 x (List.mem_cons_of_mem _ hx) b h1
    · exact hap2.1 x hx b h1
theorem Ev.St.ldRow {α : Type} {sz : Nat} {enc : α → List Value} {w0 w : World} {S : Nat → Prop} {H : List Ent} (h : St w0 S w H) (C : Codec sz enc) (i : Nat) {e : TypeId} {b o n c k off : Nat} {xs : List α} {x : α} {K : Value → Prop} (hi : H[i]? = some (ownL e sz enc (.slice (some ⟨b, o, none⟩) n c) xs)) (hx : xs[k]? = some x) (ho : off = o + k * sz) (hk : K (.agg (enc x).toArray)) : LdA w b off sz K := by
  subst ho
  have hs := ownL_slc (G := fun _ => True) C (h.get i hi) (fun _ _ => trivial)
  obtain ⟨b0, o0, h1, _, hc⟩ := hs.cells k x hx
  simp only [Option.some.injEq, Addr.mk.injEq] at h1
  obtain ⟨rfl, rfl, _⟩ := h1
  exact ⟨enc x, C.len x, hc, hk⟩
theorem Ev.St.ldRowF {α : Type} {sz : Nat} {enc : α → List Value} {w0 w : World} {S T : Nat → Prop} {H : List Ent} (h : St w0 S w H) (C : Codec sz enc) (i : Nat) {e : TypeId} {b o n c k off : Nat} {xs : List α} {x : α} {K : Value → Prop} (hi : H[i]? = some (ownL e sz enc (.slice (some ⟨b, o, none⟩) n c) xs)) (hx : xs[k]? = some x) (ho : off = o + k * sz) (hT : ¬ T b) (hk : K (.agg (enc x).toArray)) : LdG (Ext T w) b off sz K := by
  subst ho
  have hs := ownL_slc (G := fun _ => True) C (h.get i hi) (fun _ _ => trivial)
  obtain ⟨b0, o0, h1, _, hc⟩ := hs.cells k x hx
  simp only [Option.some.injEq, Addr.mk.injEq] at h1
  obtain ⟨rfl, rfl, _⟩ := h1
  exact laFc (C.len x) hc hT hk
theorem twice_cells {w : World} {vs : List NoteV} {ns : List NoteS} {x : NoteV} {y : NoteS} {k : Nat} (h : (cellsE vs ns).holds w) (hi : NoteIs x y) (hs : Slc w 10 encCell (fun _ => True) x.a x.n y.cells) : (cellsE (vs.take k ++ x :: vs.drop k) (ns.take k ++ y :: ns.drop k)).holds w := by
  have h1 := cellsE_app (cellsE_take h k) (cellsE_app (cellsE_one hi hs) (cellsE_drop h k))
  exact h1
theorem twice_foot {vs : List NoteV} {ns : List NoteS} {x : NoteV} {y : NoteS} {k b : Nat} (h : b ∈ (cellsE (vs.take k ++ x :: vs.drop k) (ns.take k ++ y :: ns.drop k)).foot) : b ∈ (cellsE vs ns).foot ∨ b ∈ footN x := by
  obtain ⟨z, hz, hb⟩ := cellsE_foot.1 h
  rcases List.mem_append.1 hz with hz | hz
  · exact .inl (cellsE_foot.2 ⟨z, List.mem_of_mem_take hz, hb⟩)
  rcases List.mem_cons.1 hz with rfl | hz
  · exact .inr hb
  · exact .inl (cellsE_foot.2 ⟨z, List.mem_of_mem_drop hz, hb⟩)
theorem footN_own {x : NoteV} {b : Nat} (h : b ∈ footN x) : (Value.slice x.a x.n x.c).ownBlock = some b := by
  unfold footN at h
  split at h
  · cases h
  · simpa using h
theorem wtwice_ok (k : Int) (h : Stands E q m w X W) : CallC Tryz.prog 50 #[.pointer (some ⟨X.w, 0, none⟩), .int .i64 k] w fun v w' => v = errV E (W.twice k).1 ∧ ∃ X', X'.w = X.w ∧ Turns w w' (worldH X W) (worldH X' (W.twice k).2) := by
  refine fn_intro tabOk Tryz.func50 (by kernel_rfl) rfl Tryz.ntmps50 (Nat.le_of_ble_eq_true rfl) ?_
  (conv => whnf)
  refine (wat_ok k h).mono ?_
  rintro v w1 ⟨rfl, hx⟩
  by_cases hu : W.at_ k = 0
  case neg =>
    obtain ⟨j, hj⟩ : ∃ j, W.at_ k = j + 1 := ⟨W.at_ k - 1, by omega⟩
    rw [show W.twice k = (W.at_ k, W) from if_pos hu, hj]
    repeat' ((conv => whnf); first | refine RetC.mk ?_ | refine NzC.mk (by decide) ?_ | refine RngC.mk (by omega) (by omega) ?_ | refine IdxC.mk (by omega) (by omega) ?_ | refine brD (fun _ => ?_) (fun _ => ?_) | refine brND (fun _ => ?_) (fun _ => ?_) | refine brN (fun _ => ?_) (fun _ => ?_) | refine brI (fun _ => ?_) (fun _ => ?_))
    exact ⟨rfl, X, rfl, Turns.of_no h.has hx⟩
  rw [hu]
  obtain ⟨i, rfl, hi⟩ := at_in hu
  have hflen := h.ok.fly
  have hqF : ∀ b, inF (fixH X W X.a X.b W.a W.b) b → q ≤ b := h.fix.2
  have hS := h.fix.1.start.no hx
  clear hx
  (conv => whnf)
  refine hS.ld 0 rfl rfl ?_
  (conv => whnf)
  refine brD (fun h3 => ?_) (fun h3 => ?_)
  · rw [show W.twice i = (6, W) by unfold WorldS.twice; rw [if_neg (fun h => h hu), if_pos (by omega)]]
    repeat' ((conv => whnf); first | refine RetC.mk ?_ | refine NzC.mk (by decide) ?_ | refine RngC.mk (by omega) (by omega) ?_ | refine IdxC.mk (by omega) (by omega) ?_ | refine hS.ldr (h.errs.at_ 6 rfl) (Errs.out h.errs 6 rfl hqF) ?_ | refine brD (fun _ => ?_) (fun _ => ?_) | refine brND (fun _ => ?_) (fun _ => ?_) | refine brN (fun _ => ?_) (fun _ => ?_) | refine brI (fun _ => ?_) (fun _ => ?_))
    exact ⟨rfl, X, rfl, Turns.frame h.has (St.turns hS)⟩
  have hc : (cellsE X.vs W.fly).holds w1 := hS.get 5 rfl
  have hl : X.vs.length = W.fly.length := hc.1
  obtain ⟨x, hxi⟩ : ∃ x, X.vs[i]? = some x := ⟨_, List.getElem?_eq_getElem (by omega)⟩
  obtain ⟨y, hyi⟩ : ∃ y, W.fly[i]? = some y := ⟨_, List.getElem?_eq_getElem (by omega)⟩
  obtain ⟨hxy, hsl⟩ := cellsE_get hc hxi hyi
  have hyl := (h.ok.notes y (List.mem_of_getElem? hyi)).2
  have hxn : x.n = y.cells.length := hsl.len.symm
  obtain ⟨g, o, hfa⟩ : ∃ g o, X.fa = some ⟨g, o, none⟩ := by
    obtain ⟨b0, o0, h1, _⟩ := (ownL_slc (G := fun _ => True) codNote (hS.get 4 rfl) (fun _ _ => trivial)).cells i x hxi
    exact ⟨b0, o0, h1⟩
  have hw : W.twice i = (0, { W with fly := W.fly.take (i + 1) ++ y :: W.fly.drop (i + 1) }) := by
    unfold WorldS.twice
    rw [if_neg (fun h => h hu), if_neg (by omega)]
    show (match W.fly[(i : Int).toNat]? with | none => _ | some x => _) = _
    rw [Int.toNat_natCast, hyi]
  rw [hw]
  clear hc hsl hw hu
  have hI : ∀ {w2 : World} {b : Nat} {a' : Option Addr} {c' : Nat}, Has w2 [ownL 107 5 encNV (.slice X.fa W.fly.length X.fc) X.vs, blk b 107 (encNV (x.with a' c'))] → CallC Tryz.prog 97 #[.slice (some ⟨g, o, none⟩) W.fly.length X.fc, .int .i64 ((i : Int) + 1), .slice (some ⟨b, 0, none⟩) 1 1] w2 fun v w' =>
      ∃ a2 c2, v = .slice a2 (W.fly.length + 1) c2 ∧ Turns w2 w' [ownL 107 5 encNV (.slice X.fa W.fly.length X.fc) X.vs, blk b 107 (encNV (x.with a' c'))] [ownL 107 5 encNV (.slice a2 (W.fly.length + 1) c2) (X.vs.take (i + 1) ++ x.with a' c' :: X.vs.drop (i + 1)), blk b 107 (encNV (x.with a' c'))] := by
    intro w2 b a' c' hH
    rw [← hl] at hH ⊢
    rw [← hfa]
    exact nins_ok (k := i + 1) hH (by omega) (by omega)
  have hfin : ∀ {w' : World} {a2 a' : Option Addr} {c2 c' : Nat}, St w (inF (fixH X W X.a X.b W.a W.b)) w' [blk X.w 96 (encWorld { X with fa := a2, fc := c2 } { W with fly := W.fly.take (i + 1) ++ y :: W.fly.drop (i + 1) }), blk X.a.s 101 (encSide X.a W.a), blk X.b.s 101 (encSide X.b W.b), ownL 92 5 encRule (.slice X.ra W.rules.length X.rc) W.rules, ownL 107 5 encNV (.slice a2 (W.fly.length + 1) c2) (X.vs.take (i + 1) ++ x.with a' c' :: X.vs.drop (i + 1)), cellsE X.vs W.fly, ownL 64 2 encEv (.slice X.ea W.events.length X.ec) W.events, ownL 59 10 encCell (.slice a' x.n c') y.cells] →
      ∃ X', X'.w = X.w ∧ Turns w w' (worldH X W) (worldH X' { W with fly := W.fly.take (i + 1) ++ y :: W.fly.drop (i + 1) }) := by
    intro w' a2 a' c2 c' hS
    refine ⟨{ X with fa := a2, fc := c2, vs := X.vs.take (i + 1) ++ x.with a' c' :: X.vs.drop (i + 1) }, rfl, ?_⟩
    have hcs : Slc w' 10 encCell (fun _ => True) a' x.n y.cells := ownL_slc codCell (hS.get 7 rfl) (fun _ _ => trivial)
    have hS2 := (hS.sel [5, 7, 0, 1, 2, 3, 4, 6] (by decide)).join (g := cellsE (X.vs.take (i + 1) ++ x.with a' c' :: X.vs.drop (i + 1)) (W.fly.take (i + 1) ++ y :: W.fly.drop (i + 1))) cellsE_local (twice_cells (hS.get 5 rfl) ⟨hxy.fro, hxy.life, hxy.epoch, hxy.claim⟩ hcs) (fun b hb => (twice_foot hb).imp id fun h => foot_own (footN_own h))
    have hll : (W.fly.take (i + 1) ++ y :: W.fly.drop (i + 1)).length = W.fly.length + 1 := by
      simp only [List.length_append, List.length_cons, List.length_take, List.length_drop]
      omega
    rw [← hll] at hS2
    exact Turns.fixed h.has (St.turns (hS2.sel [1, 2, 3, 4, 5, 0, 6] (by decide))) rfl rfl rfl rfl
  have hll : (W.fly.take (i + 1) ++ y :: W.fly.drop (i + 1)).length = W.fly.length + 1 := by
    simp only [List.length_append, List.length_cons, List.length_take, List.length_drop]
    omega
  (conv => whnf)
  refine drawT tabOk mixed [4, 10, 13] (fun _ => True) (.take 0 (.take 1 (.take 2 (.take 3 (.take 5 (.take 6 (.take 7 (.take 8 (.take 9 (.take 11 (.alt 4 (.alt 10 (.take 12 (.alt 13 (.alt 14 (.alt 15 (.alt 16 (.take 17 (.take 18 (.alt 19 .fin .fin))) .fin) .fin) .fin) .fin)) .fin) (.alt 10 (.take 12 (.alt 4 (.alt 13 (.alt 14 (.alt 15 (.alt 16 (.take 17 (.take 18 (.alt 19 .fin .fin))) .fin) .fin) .fin) .fin) (.alt 13 (.alt 4 (.alt 14 (.alt 15 (.alt 16 (.take 17 (.take 18 (.alt 19 .fin .fin))) .fin) .fin) .fin) (.alt 14 (.alt 4 (.alt 15 (.alt 16 (.take 17 (.take 18 (.alt 19 .fin .fin))) .fin) .fin) (.alt 15 (.alt 4 (.alt 16 (.take 17 (.take 18 (.alt 19 .fin .fin))) .fin) .fin) .fin)) .fin)) .fin))) .fin)))))))))))) (by kernel_rfl) ?_
  rintro w1 rfl
  replace hS := hS.drew
  have hK := hS.ref (fun _ => True)
  repeat' ((conv => whnf); first | refine RetC.mk ?_ | refine NzC.mk (by decide) ?_ | refine RngC.mk (by omega) (by omega) ?_ | refine IdxC.mk (by omega) (by omega) ?_ | refine hS.ld 0 rfl (v := .slice (some ⟨g, o, none⟩) W.fly.length X.fc) (by rw [← hfa]; rfl) (KeepC.mk hK ?_) | refine hS.ldRow codNote 4 (by rw [← hfa]; rfl) hxi rfl (KeepC.mk hK ?_) | (refine (wown_ok (cellsE_get (hS.get 5 rfl) hxi hyi).2 (by omega)).mono ?_; rintro v w2 ⟨a', c', rfl, hx, ho, hf⟩; replace hS := hS.made hx ownL_local ho (fun g hg => hf g (by simpa [ownL, own] using hg)); replace hK := hK.trans hx.of_no; clear hx ho hf; refine KeepC.mk hK ?_) | (refine hS.litX Tryz.underlying81 (sz := 5) (by kernel_rfl) (z := .agg (encNV noNV).toArray) (by kernel_rfl) rfl rfl (cs := encNV (x.with a' c')) (by rfl) (fun b9 w3 hb9 hx hS => ?_); replace hK := hK.trans hx.of_no; clear hx; refine KeepC.mk hK ?_) | (have hS2 := hS.sel [4, 8, 0, 1, 2, 3, 5, 6, 7] (by decide); refine (hI (Has.left (A := [_, _]) (B := [_, _, _, _, _, _, _]) hS2.has)).mono ?_; rintro v w4 ⟨a2, c2, rfl, hk⟩; replace hS := (St.call (H := [_, _]) (B := [_, _, _, _, _, _, _]) hS2 hk).sel [2, 3, 4, 5, 0, 6, 7, 8] (by decide); replace hK := hK.trans (hk.ext.mono fun _ _ => trivial); clear hS2 hk; refine KeepC.mk hK ?_) | (refine hS.stK hK 0 rfl (Nat.le_of_ble_eq_true rfl) rfl trivial (fun w' hK hS => KeepC.mk hK ?_)) | (refine ⟨rfl, hfin (a2 := a2) (a' := a') (c2 := c2) (c' := c') ?_⟩; rw [← hll] at hS ⊢; exact hS) | refine And.intro ?_ ?_ | refine brD (fun _ => ?_) (fun _ => ?_) | refine brND (fun _ => ?_) (fun _ => ?_) | refine brN (fun _ => ?_) (fun _ => ?_) | refine brI (fun _ => ?_) (fun _ => ?_))
theorem eclone_ok {G : Int × Int → Prop} {a : Option Addr} {n c : Nat} {xs : List (Int × Int)} (hx : Slc w 2 encEv G a n xs) (hn : n ≤ 2000) :
    CallC Tryz.prog 62 #[.slice a n c] w fun v w' => ∃ a' c', v = .slice a' n c' ∧ Ext No w w' ∧ (ownL 64 2 encEv v xs).holds w' ∧ Fresh w w' v := by
  have hl := hx.len
  refine fn_intro tabOk Tryz.func62 (by kernel_rfl) rfl Tryz.ntmps62 (Nat.le_of_ble_eq_true rfl) ?_
  have hS := St.start w No
  cases a with
  | none =>
    have hn0 : n = 0 := by
      rcases Nat.eq_zero_or_pos n with h | h
      · exact h
      · obtain ⟨_, _, _, _, _, h, _⟩ := hx.at h
        cases h
    subst hn0
    obtain rfl : xs = [] := List.length_eq_zero_iff.1 hl
    repeat' ((conv => whnf); first | refine RetC.mk ?_ | refine NzC.mk (by decide) ?_ | refine RngC.mk (by omega) (by omega) ?_ | refine IdxC.mk (by omega) (by omega) ?_ | refine brD (fun _ => ?_) (fun _ => ?_) | refine brND (fun _ => ?_) (fun _ => ?_) | refine brN (fun _ => ?_) (fun _ => ?_) | refine brI (fun _ => ?_) (fun _ => ?_))
    have hS := hS.addNil 64 2 encEv
    exact ⟨none, 0, rfl, hS.ext, hS.get 0 rfl, hS.freshAt 0 rfl⟩
  | some a0 =>
    (conv => whnf)
    refine hS.lit0 Tryz.underlying60 (sz := 2) (by kernel_rfl) (fun b0 w1 hS => ?_)
    (conv => whnf)
    refine hS.appS codEv 0 (xs := []) Tryz.underlying60 (bytes := 16) (by kernel_rfl) (z := .agg (encEv (0, 0)).toArray) (by kernel_rfl) rfl rfl (hx.no hS.ext) (by unfold maxLen; simp; omega) (by simp; omega) (fun a' c' w' hS => ?_)
    repeat' ((conv => whnf); first | refine RetC.mk ?_ | refine NzC.mk (by decide) ?_ | refine RngC.mk (by omega) (by omega) ?_ | refine IdxC.mk (by omega) (by omega) ?_ | refine brD (fun _ => ?_) (fun _ => ?_) | refine brND (fun _ => ?_) (fun _ => ?_) | refine brN (fun _ => ?_) (fun _ => ?_) | refine brI (fun _ => ?_) (fun _ => ?_))
    have hn0 : ([] : List (Int × Int)).length + n = n := by simp
    rw [hn0] at hS ⊢
    exact ⟨a', c', rfl, hS.ext, hS.get 0 rfl, hS.freshAt 0 rfl⟩
theorem wevents_ok (h : Stands E q m w X W) : CallC Tryz.prog 24 #[.pointer (some ⟨X.w, 0, none⟩)] w fun v w' => ∃ a' c', v = .slice a' W.events.length c' ∧ Ext No w w' ∧ (ownL 64 2 encEv v W.events).holds w' ∧ Fresh w w' v := by
  have he := h.ok.events
  refine fn_intro tabOk Tryz.func24 (by kernel_rfl) rfl Tryz.ntmps24 (Nat.le_of_ble_eq_true rfl) ?_
  have hS := h.fix.1.start
  (conv => whnf)
  refine hS.ld 0 rfl rfl ?_
  (conv => whnf)
  refine (eclone_ok (ownL_slc (G := fun _ => True) codEv (hS.get 6 rfl) (fun _ _ => trivial)) (by omega)).mono ?_
  rintro v w' ⟨a', c', rfl, hx, ho, hf⟩
  repeat' ((conv => whnf); first | refine RetC.mk ?_ | refine NzC.mk (by decide) ?_ | refine RngC.mk (by omega) (by omega) ?_ | refine IdxC.mk (by omega) (by omega) ?_ | refine brD (fun _ => ?_) (fun _ => ?_) | refine brND (fun _ => ?_) (fun _ => ?_) | refine brN (fun _ => ?_) (fun _ => ?_) | refine brI (fun _ => ?_) (fun _ => ?_))
  exact ⟨a', c', rfl, hx, ho, hf⟩
end
end Go.Proofs.YtoaghhcjlfiflaaGreatDoor

namespace Go.Proofs.YtoaghhcjlfiflaaGreatDoor
open Go Ev
section
variable {w w' : World} {X : WorldA} {W : WorldS} {E : Nat → Addr} {q m : Nat}
theorem ndel2_ok {i : Nat} {g o : Nat} (hfa : X.fa = some ⟨g, o, none⟩) (hl : X.vs.length = W.fly.length) (hi : i < W.fly.length) (hm : W.fly.length ≤ 200) {w2 : World} (ho : (ownL 107 5 encNV (.slice X.fa W.fly.length X.fc) X.vs).holds w2) :
    CallC Tryz.prog 53 #[.slice (some ⟨g, o, none⟩) W.fly.length X.fc, .int .i64 (i : Int), .int .i64 ((i : Int) + 1)] w2 fun v w' =>
      v = .slice (some ⟨g, o, none⟩) (W.fly.eraseIdx i).length X.fc ∧ Ext (fun b => (Value.slice X.fa W.fly.length X.fc).ownBlock = some b) w2 w' ∧ (ownL 107 5 encNV (.slice X.fa (W.fly.eraseIdx i).length X.fc) (X.vs.eraseIdx i)).holds w' := by
  rw [show (W.fly.eraseIdx i).length = X.vs.length - 1 by rw [List.length_eraseIdx, if_pos hi, hl], ← hfa]
  rw [← hl] at ho ⊢
  exact ndel_ok ho (by omega) (by omega)
def gotH (X : WorldA) (W : WorldS) (i : Nat) (Y Z : SideA) (s t : SideS) : List Ent := [blk X.w 96 (encWorld X (W.off i)), blk Y.s 101 (encSide Y s), blk Z.s 101 (encSide Z t), ownL 92 5 encRule (.slice X.ra W.rules.length X.rc) W.rules, ownL 107 5 encNV (.slice X.fa (W.fly.eraseIdx i).length X.fc) (X.vs.eraseIdx i), cellsE X.vs W.fly, ownL 64 2 encEv (.slice X.ea W.events.length X.ec) W.events]
theorem St.gotOff {w0 w : World} {S : Nat → Prop} {i : Nat} {Y Z : SideA} {s t : SideS} {B : List Ent} (hS : St w0 S w (gotH X W i Y Z s t ++ B)) : St w0 S w (fixH (X.off i) (W.off i) Y Z s t ++ B) := by
  have hc1 : (cellsE X.vs W.fly).holds w := hS.get 5 rfl
  exact hS.upd 5 rfl (T := No) (Ext.refl _ _) (fun _ h => h.elim) cellsE_local (cellsE_erase hc1 i) (fun b hb => .inl (erase_foot hb))
theorem wdeliver_ok (k : Int) (h : Stands E q m w X W) : CallC Tryz.prog 18 #[.pointer (some ⟨X.w, 0, none⟩), .int .i64 k] w fun v w' => v = errV E (W.deliver k).1 ∧ ∃ X', X'.w = X.w ∧ Turns w w' (worldH X W) (worldH X' (W.deliver k).2) := by
  refine fn_intro tabOk Tryz.func18 (by kernel_rfl) rfl Tryz.ntmps18 (Nat.le_of_ble_eq_true rfl) ?_
  (conv => whnf)
  refine (wat_ok k h).mono ?_
  rintro v w1 ⟨rfl, hx⟩
  by_cases hu : W.at_ k = 0
  case neg =>
    obtain ⟨j, hj⟩ : ∃ j, W.at_ k = j + 1 := ⟨W.at_ k - 1, by omega⟩
    rw [show W.deliver k = (W.at_ k, W) from if_pos hu, hj]
    repeat' ((conv => whnf); first | refine RetC.mk ?_ | refine NzC.mk (by decide) ?_ | refine RngC.mk (by omega) (by omega) ?_ | refine IdxC.mk (by omega) (by omega) ?_ | refine brD (fun _ => ?_) (fun _ => ?_) | refine brND (fun _ => ?_) (fun _ => ?_) | refine brN (fun _ => ?_) (fun _ => ?_) | refine brI (fun _ => ?_) (fun _ => ?_))
    exact ⟨rfl, X, rfl, Turns.of_no h.has hx⟩
  rw [hu]
  obtain ⟨i, rfl, hi⟩ := at_in hu
  have hflen := h.ok.fly
  have hc : (cellsE X.vs W.fly).holds w := h.has.get 5 rfl
  have hl : X.vs.length = W.fly.length := hc.1
  obtain ⟨x, hxi⟩ : ∃ x, X.vs[i]? = some x := ⟨_, List.getElem?_eq_getElem (by omega)⟩
  obtain ⟨y, hyi⟩ : ∃ y, W.fly[i]? = some y := ⟨_, List.getElem?_eq_getElem (by omega)⟩
  obtain ⟨hxy, hsl⟩ := cellsE_get hc hxi hyi
  obtain ⟨hyf, hyl⟩ := h.ok.notes y (List.mem_of_getElem? hyi)
  have hxn : x.n = y.cells.length := hsl.len.symm
  obtain ⟨g, o, hfa⟩ : ∃ g o, X.fa = some ⟨g, o, none⟩ := by
    obtain ⟨b0, o0, h1, _⟩ := (ownL_slc (G := fun _ => True) codNote (h.has.get 4 rfl) (fun _ _ => trivial)).cells i x hxi
    exact ⟨b0, o0, h1⟩
  have hw : W.deliver i = (0, (W.off i).got y) := by
    unfold WorldS.deliver
    rw [if_neg (fun h => h hu)]
    show (match W.fly[(i : Int).toNat]? with | none => _ | some x => _) = _
    rw [Int.toNat_natCast, hyi]
  rw [hw]
  clear hc hsl hw hu
  cases hcl : y.claim
  case true =>
    have hxc : x.claim = true := hxy.claim.trans hcl
    have hS := h.fix.1.start.no hx
    clear hx
    (conv => whnf)
    refine hS.ld 0 rfl (v := .slice (some ⟨g, o, none⟩) W.fly.length X.fc) (by rw [← hfa]; rfl) ?_
    (conv => whnf)
    refine IdxC.mk (by omega) (by omega) ?_
    (conv => whnf)
    refine hS.ldRow codNote 4 (by rw [← hfa]; rfl) hxi rfl ?_
    (conv => whnf)
    refine hS.new (fun b6 w2 hb6 hS => ?_)
    (conv => whnf)
    refine hS.st 7 rfl (Nat.le_of_ble_eq_true rfl) rfl (fun w3 hS => ?_)
    (conv => whnf)
    refine hS.ld 0 rfl (v := .slice (some ⟨g, o, none⟩) W.fly.length X.fc) (by rw [← hfa]; rfl) ?_
    (conv => whnf)
    refine RngC.mk (by omega) (by omega) ?_
    (conv => whnf)
    refine (ndel2_ok hfa hl hi hflen (hS.get 4 rfl)).mono ?_
    rintro v w4 ⟨rfl, hx, ho⟩
    replace hS := hS.upd 4 rfl hx (fun b hb => foot_own hb) ownL_local ho (fun b hb => .inl (ownB_slice hb))
    clear hx ho
    (conv => whnf)
    refine hS.st 0 rfl (by exact Nat.le_of_ble_eq_true rfl) rfl (fun w5 hS => ?_)
    (conv => whnf)
    rw [← hfa] at hS
    replace hS : St w (inF (fixH X W X.a X.b W.a W.b)) w5 (gotH X W i X.a X.b W.a W.b ++ [blk b6 107 (encNV x)]) := hS
    refine hS.ld 7 rfl (v := .bool true) (by rw [← hxc]; rfl) ?_
    have hxe := hxy.epoch
    have hxf := hxy.fro
    have e1 : (W.off (i : Int)).epoch = W.epoch := rfl
    have e2 : (W.off (i : Int)).to = W.to := rfl
    have hg1 : y.epoch > W.epoch ∨ W.to < 0 → (W.off i).got y = { W.off i with to := x.fro, epoch := x.epoch } := fun h => by
      unfold WorldS.got
      rw [if_pos hcl, hxe, hxf]
      exact if_pos h
    have hg2 : ¬ (y.epoch > W.epoch ∨ W.to < 0) → (W.off i).got y = W.off i := fun h => by
      unfold WorldS.got
      rw [if_pos hcl]
      exact if_neg h
    have hT : ∀ {w' : World} {W' : WorldS}, W'.a = W.a → W'.b = W.b → Turns w w' (fixH X W X.a X.b W.a W.b) (fixH (X.off i) W' X.a X.b W.a W.b) → Turns w w' (worldH X W) (worldH (X.off i) W') := fun ha hb k => Turns.fixed h.has k rfl rfl ha hb
    have hne := hS.ne 7 0 rfl rfl (by decide)
    (conv => whnf)
    (refine drawS tabOk mixed [] No [0, 1, 2, 3, 4, 5, 6, 7, 8, 9, 10, 11, 12, 13] (by kernel_rfl) ?_; rintro w1 rfl; replace hS := hS.drew)
    repeat' ((conv => whnf); first | refine RetC.mk ?_ | refine NzC.mk (by decide) ?_ | refine RngC.mk (by omega) (by omega) ?_ | refine IdxC.mk (by omega) (by omega) ?_ | refine hS.ldF 7 rfl rfl id ?_ | refine hS.ldF 0 rfl rfl id ?_ | refine brD (fun _ => ?_) (fun _ => ?_) | refine brND (fun _ => ?_) (fun _ => ?_) | refine brN (fun _ => ?_) (fun _ => ?_) | refine brI (fun _ => ?_) (fun _ => ?_))
    all_goals first
      | (rw [hg2 (by omega)]; exact ⟨rfl, X.off i, rfl, hT rfl rfl (St.turns (St.gotOff (B := []) (hS.keep 7)))⟩)
      | (rw [hg1 (by omega)]
         (refine drawS tabOk mixed [] (fun b => b = X.w) [0, 1, 2, 3, 4, 5, 6, 7, 8, 9, 10, 11] (by kernel_rfl) ?_; rintro w1 rfl; replace hS := hS.drew)
         have hK := hS.ref (fun b => b = X.w)
         repeat' ((conv => whnf); first | refine RetC.mk ?_ | refine NzC.mk (by decide) ?_ | refine RngC.mk (by omega) (by omega) ?_ | refine IdxC.mk (by omega) (by omega) ?_ | refine hS.ldF 7 rfl rfl hne ?_ | (refine hS.stK hK 0 rfl (by exact Nat.le_of_ble_eq_true rfl) rfl rfl (fun w' hK hS => KeepC.mk hK ?_)) | refine brD (fun _ => ?_) (fun _ => ?_) | refine brND (fun _ => ?_) (fun _ => ?_) | refine brN (fun _ => ?_) (fun _ => ?_) | refine brI (fun _ => ?_) (fun _ => ?_))
         exact ⟨rfl, X.off i, rfl, hT rfl rfl (St.turns (St.gotOff (W := { W with to := x.fro, epoch := x.epoch }) (B := []) (hS.keep 7)))⟩)
  case false =>
    have hxc : x.claim = false := hxy.claim.trans hcl
    have hn : 1 - y.fro = 0 ∨ 1 - y.fro = 1 := by omega
    have hxf := hxy.fro
    cases hN : (W.side (1 - y.fro)).node with
    | none =>
      have hS := h.fix.1.start.no hx
      clear hx
      (conv => whnf)
      refine hS.ld 0 rfl (v := .slice (some ⟨g, o, none⟩) W.fly.length X.fc) (by rw [← hfa]; rfl) ?_
      (conv => whnf)
      refine IdxC.mk (by omega) (by omega) ?_
      (conv => whnf)
      refine hS.ldRow codNote 4 (by rw [← hfa]; rfl) hxi rfl ?_
      (conv => whnf)
      refine hS.new (fun b6 w2 hb6 hS => ?_)
      (conv => whnf)
      refine hS.st 7 rfl (Nat.le_of_ble_eq_true rfl) rfl (fun w3 hS => ?_)
      (conv => whnf)
      refine hS.ld 0 rfl (v := .slice (some ⟨g, o, none⟩) W.fly.length X.fc) (by rw [← hfa]; rfl) ?_
      (conv => whnf)
      refine RngC.mk (by omega) (by omega) ?_
      (conv => whnf)
      refine (ndel2_ok hfa hl hi hflen (hS.get 4 rfl)).mono ?_
      rintro v w4 ⟨rfl, hx, ho⟩
      replace hS := hS.upd 4 rfl hx (fun b hb => foot_own hb) ownL_local ho (fun b hb => .inl (ownB_slice hb))
      clear hx ho
      (conv => whnf)
      refine hS.st 0 rfl (by exact Nat.le_of_ble_eq_true rfl) rfl (fun w5 hS => ?_)
      (conv => whnf)
      rw [← hfa] at hS
      replace hS : St w (inF (fixH X W X.a X.b W.a W.b)) w5 (gotH X W i X.a X.b W.a W.b ++ [blk b6 107 (encNV x)]) := hS
      refine hS.ld 7 rfl (v := .bool false) (by rw [← hxc]; rfl) ?_
      have hg : (W.off i).got y = W.off i := by
        unfold WorldS.got
        rw [if_neg (by rw [hcl]; decide), if_neg (by omega)]
        show (match (W.side (1 - y.fro)).node with | none => _ | some N => _) = _
        rw [hN]
      have hk : Turns w w5 (worldH X W) (worldH (X.off i) (W.off i)) := Turns.fixed h.has (St.turns (St.gotOff (B := []) (hS.keep 7))) rfl rfl rfl rfl
      have hst : Stands E q m w5 (X.off i) (W.off i) := h.turns hk (h.ok.off i)
      rw [hg]
      (conv => whnf)
      refine hS.ld 7 rfl rfl ?_
      (conv => whnf)
      refine RngC.mk (by omega) (by omega) ?_
      (conv => whnf)
      rw [hxf]
      refine (wup_ok (1 - y.fro) hst).mono ?_
      rintro v w6 ⟨rfl, hx⟩
      rw [upErr_none (W := W.off i) hn hN]
      repeat' ((conv => whnf); first | refine RetC.mk ?_ | refine NzC.mk (by decide) ?_ | refine RngC.mk (by omega) (by omega) ?_ | refine IdxC.mk (by omega) (by omega) ?_ | refine brD (fun _ => ?_) (fun _ => ?_) | refine brND (fun _ => ?_) (fun _ => ?_) | refine brN (fun _ => ?_) (fun _ => ?_) | refine brI (fun _ => ?_) (fun _ => ?_))
      exact ⟨rfl, X.off i, rfl, hk.trans (Turns.of_no hst.has hx)⟩
    | some N =>
      obtain ⟨hH, hQ⟩ := h.half hn
      have hnk := ((h.ok.side hn).node N hN).1
      have hT : ∀ {w'}, Turns w w' (halfH X W (1 - y.fro)) (fixH (X.off i) (W.off i) (X.side (1 - y.fro)) (X.side (1 - (1 - y.fro))) ⟨some (N.hear y).2, (W.side (1 - y.fro)).byt⟩ (W.side (1 - (1 - y.fro))) ++ nodeB (X.side (1 - y.fro)).A (N.hear y).2 (W.side (1 - y.fro)).byt) → Turns w w' (worldH X W) (worldH (X.off i) ((W.off i).got y)) := fun k => by
        have hg : (W.off i).got y = (W.off i).setSide (1 - y.fro) ⟨some (N.hear y).2, (W.side (1 - y.fro)).byt⟩ := by
          unfold WorldS.got
          rw [if_neg (by rw [hcl]; decide), if_neg (by omega)]
          show (match (W.side (1 - y.fro)).node with | none => _ | some N => _) = _
          rw [hN]
          rfl
        rw [hg]
        refine Turns.world h.has hn (X' := X.off i) ?_ rfl (side_set (X := X.off i) (W := W.off i) hn ((X.off i).side (1 - y.fro)) _).2.2.2
        have := half_set (X := X.off i) (W := W.off i) hn (Y := (X.off i).side (1 - y.fro)) rfl ⟨some (N.hear y).2, (W.side (1 - y.fro)).byt⟩
        rw [setSide_id hn] at this
        rw [this]
        exact k
      have hS := hH.start.no hx
      clear hx
      rw [half_up hN] at hS
      (conv => whnf)
      refine hS.ld 0 rfl (v := .slice (some ⟨g, o, none⟩) W.fly.length X.fc) (by rw [← hfa]; rfl) ?_
      (conv => whnf)
      refine IdxC.mk (by omega) (by omega) ?_
      (conv => whnf)
      refine hS.ldRow codNote 4 (by rw [← hfa]; rfl) hxi rfl ?_
      (conv => whnf)
      refine hS.new (fun b6 w2 hb6 hS => ?_)
      (conv => whnf)
      refine hS.st 15 rfl (Nat.le_of_ble_eq_true rfl) rfl (fun w3 hS => ?_)
      (conv => whnf)
      refine hS.ld 0 rfl (v := .slice (some ⟨g, o, none⟩) W.fly.length X.fc) (by rw [← hfa]; rfl) ?_
      (conv => whnf)
      refine RngC.mk (by omega) (by omega) ?_
      (conv => whnf)
      refine (ndel2_ok hfa hl hi hflen (hS.get 4 rfl)).mono ?_
      rintro v w4 ⟨rfl, hx, ho⟩
      replace hS := hS.upd 4 rfl hx (fun b hb => foot_own hb) ownL_local ho (fun b hb => .inl (ownB_slice hb))
      clear hx ho
      (conv => whnf)
      refine hS.st 0 rfl (by exact Nat.le_of_ble_eq_true rfl) rfl (fun w5 hS => ?_)
      (conv => whnf)
      rw [← hfa] at hS
      replace hS : St w (inF (fixH X W (X.side (1 - y.fro)) (X.side (1 - (1 - y.fro))) ⟨some N, (W.side (1 - y.fro)).byt⟩ (W.side (1 - (1 - y.fro))) ++ nodeB (X.side (1 - y.fro)).A N (W.side (1 - y.fro)).byt)) w5 (gotH X W i (X.side (1 - y.fro)) (X.side (1 - (1 - y.fro))) ⟨some N, (W.side (1 - y.fro)).byt⟩ (W.side (1 - (1 - y.fro))) ++ (nodeB (X.side (1 - y.fro)).A N (W.side (1 - y.fro)).byt ++ [blk b6 107 (encNV x)])) := hS
      refine hS.ld 15 rfl (v := .bool false) (by rw [← hxc]; rfl) ?_
      have hst : Stands E q m w5 (X.off i) (W.off i) := by
        refine h.turns (m' := m) ?_ (h.ok.off i)
        refine Turns.world h.has hn (X' := X.off i) ?_ rfl rfl
        have := St.turns (St.gotOff (B := nodeB (X.side (1 - y.fro)).A N (W.side (1 - y.fro)).byt) (hS.keep 15))
        rw [← half_up hN] at this
        have h2 := half_up (X := X.off i) (W := W.off i) (n := 1 - y.fro) hN
        rw [h2]
        exact this
      (conv => whnf)
      refine hS.ld 15 rfl rfl ?_
      (conv => whnf)
      refine RngC.mk (by omega) (by omega) ?_
      (conv => whnf)
      rw [hxf]
      refine (wup_ok (1 - y.fro) hst).mono ?_
      rintro v w6 ⟨rfl, hx⟩
      replace hS := hS.no hx
      rw [upErr_some (W := W.off i) hn hN, if_pos rfl]
      clear hx hst
      rw [half_up hN] at hT hQ
      have hE := h.errs.ext hS.ext hQ
      have hQ' : High (nodeH (X.side (1 - y.fro)).A N) q := hQ.app.2.app.1
      have hs := hS.notin 1 7 7 rfl (List.mem_singleton.2 rfl) (.inl (by decide))
      have hp := hS.notin 15 7 7 rfl (List.mem_singleton.2 rfl) (.inr (by decide))
      have hsrc : 0 < x.n → ∀ b0 o0, x.a = some ⟨b0, o0, none⟩ → ¬ inF (nodeH (X.side (1 - y.fro)).A N) b0 := fun h0 b0 o0 ha => hS.notin 5 7 7 (e := cellsE X.vs W.fly) rfl (cellsE_foot.2 ⟨x, List.mem_of_getElem? hxi, footN_at h0 ha⟩) (.inl (by decide))
      (conv => whnf)
      (refine drawS tabOk mixed [] (inF (nodeH (X.side (1 - y.fro)).A N)) [0, 1, 2, 3, 4, 5] (by kernel_rfl) ?_; rintro w1 rfl; replace hS := hS.drew)
      (conv => whnf)
      refine hS.ldF 1 rfl (v := .pointer (some ⟨(X.side (1 - y.fro)).A.n, 0, none⟩)) rfl hs ?_
      (conv => whnf)
      refine hS.laXF 15 rfl rfl hp ?_
      (conv => whnf)
      have hw3 : Has _ (nodeH (X.side (1 - y.fro)).A N) := Has.left (B := [_, _]) (Has.right (A := [_, _, _, _, _, _, _]) hS.has)
      have hyx : (⟨x.fro, x.life, x.epoch, x.claim, y.cells⟩ : NoteS) = y := by
        obtain ⟨f, l, e, c, cs⟩ := y
        simp only [NoteS.mk.injEq, and_true]
        exact ⟨hxy.fro, hxy.life, hxy.epoch, hxy.claim⟩
      refine (nhear_ok x y.cells (cellsE_get (hS.get 5 rfl) hxi hyi).2 hsrc hw3 hnk ((hE.ext (Ext.drawn No _ _) fun _ h => h.elim).sub rfl) hQ').mono ?_
      rintro v w' ⟨rfl, hk⟩
      refine KeepC.mk hk.ext ?_
      rw [hyx] at hk
      replace hS := St.callAt (A := gotH X W i (X.side (1 - y.fro)) (X.side (1 - (1 - y.fro))) ⟨some N, (W.side (1 - y.fro)).byt⟩ (W.side (1 - (1 - y.fro)))) (B := [_, _]) hS hk
      repeat' ((conv => whnf); first | refine RetC.mk ?_ | refine NzC.mk (by decide) ?_ | refine RngC.mk (by omega) (by omega) ?_ | refine IdxC.mk (by omega) (by omega) ?_ | refine brD (fun _ => ?_) (fun _ => ?_) | refine brND (fun _ => ?_) (fun _ => ?_) | refine brN (fun _ => ?_) (fun _ => ?_) | refine brI (fun _ => ?_) (fun _ => ?_))
      exact ⟨rfl, X.off i, rfl, hT (St.turns (St.gotOff (B := nodeB (X.side (1 - y.fro)).A (N.hear y).2 (W.side (1 - y.fro)).byt) (hS.keep 15)))⟩
end
end Go.Proofs.YtoaghhcjlfiflaaGreatDoor

namespace Go.Proofs.YtoaghhcjlfiflaaGreatDoor
open Go Ev
section
variable {w w' : World} {X : WorldA} {W : WorldS} {E : Nat → Addr} {q m : Nat}
theorem wflying_ok (h : Stands E q m w X W) : CallC Tryz.prog 37 #[.pointer (some ⟨X.w, 0, none⟩)] w fun v w' => ∃ a' c' vs', v = .slice a' W.fly.length c' ∧ Ext No w w' ∧ Has w' [ownL 107 5 encNV v vs', cellsE vs' W.fly] := by
  have hflen := h.ok.fly
  have hc : (cellsE X.vs W.fly).holds w := h.has.get 5 rfl
  have hl : X.vs.length = W.fly.length := hc.1
  have hrow := ownL_slc (G := fun _ => True) codNote (h.has.get 4 rfl) (fun _ _ => trivial)
  have hnote := h.ok.notes
  refine fn_intro tabOk Tryz.func37 (by kernel_rfl) rfl Tryz.ntmps37 (Nat.le_of_ble_eq_true rfl) ?_
  (conv => whnf)
  refine h.has.start.ld 0 rfl rfl ?_
  have hS := ((St.start w No).addNil 107 5 encNV).add (e := cellsE [] []) cellsE_local (cellsE_nil w) (fun b hb => by simp [cellsE] at hb) (fun f _ b _ hb => by simp [cellsE] at hb)
  (conv => whnf)
  refine loopR tabOk (fun σ w' q => ∃ (k : Nat) (a' : Option Addr) (c' : Nat) (vs' : List NoteV), vs'.length = k ∧ σ = [(11, .int .i64 k), (10, .int .i64 (W.fly.length : Nat)), (9, .slice X.fa W.fly.length X.fc), (3, .slice a' k c')] ∧ q = W.fly.length - k ∧ k ≤ W.fly.length ∧ St w No w' [ownL 107 5 encNV (.slice a' k c') vs', cellsE vs' (W.fly.take k)])
    (σ' := [(11, .int .i64 ((0 : Nat) : Int)), (10, .int .i64 (W.fly.length : Nat)), (9, .slice X.fa W.fly.length X.fc), (3, .slice none 0 0)]) (n := W.fly.length) ⟨rfl, rfl, rfl, rfl, trivial⟩ ⟨0, none, 0, [], rfl, rfl, rfl, Nat.zero_le _, hS⟩ ?_
  clear hS
  rintro _ w1 q' ⟨k, a', c', vs', hvl, rfl, rfl, hk, hS⟩
  (conv => whnf)
  refine brD (fun h3 => ?_) (fun h3 => ?_)
  · have hk3 : k < W.fly.length := by omega
    obtain ⟨b0, o0, x, hxk, _, hfa, hb0, hcx⟩ := hrow.at hk3
    obtain ⟨y, hyk⟩ : ∃ y, W.fly[k]? = some y := ⟨_, List.getElem?_eq_getElem hk3⟩
    obtain ⟨hxy, hsl⟩ := cellsE_get hc hxk hyk
    have hyl := (hnote y (List.mem_of_getElem? hyk)).2
    have hxn : x.n = y.cells.length := hsl.len.symm
    have hst : W.fly.take (k + 1) = W.fly.take k ++ [y] := by rw [List.take_add_one, hyk]; rfl
    rw [hfa]
    (conv => whnf)
    refine IdxC.mk (by omega) (by omega) ?_
    (conv => whnf)
    refine hS.lar rfl hcx id ?_
    (conv => whnf)
    refine hS.new (fun b6 w2 hb6 hS => ?_)
    (conv => whnf)
    refine hS.st 2 rfl (Nat.le_of_ble_eq_true rfl) rfl (fun w3 hS => ?_)
    (conv => whnf)
    refine hS.laX 2 rfl rfl ?_
    (conv => whnf)
    refine (wown_ok (hsl.no hS.ext) (by omega)).mono ?_
    rintro v w4 ⟨a2, c2, rfl, hx, ho, hf⟩
    replace hS := hS.made hx ownL_local ho (fun g hg => hf g (by simpa [ownL, own] using hg))
    clear hx ho hf
    (conv => whnf)
    refine hS.litX Tryz.underlying81 (sz := 5) (by kernel_rfl) (z := .agg (encNV noNV).toArray) (by kernel_rfl) rfl rfl (cs := encNV (x.with a2 c2)) (by rfl) (fun b9 w5 hb9 hx hS => ?_)
    (conv => whnf)
    refine hS.appS codNote 0 (ys := [x.with a2 c2]) (G := fun _ => True) Tryz.underlying81 (bytes := 56) (by kernel_rfl) (z := .agg (encNV noNV).toArray) (by kernel_rfl) rfl rfl (Slc.of_blk codNote (hS.blk 4 rfl) rfl (by simp) (fun _ _ => trivial) rfl) (by rw [hvl]; unfold maxLen; omega) (by rw [hvl]; omega) (fun a3 c3 w6 hS => ?_)
    rw [hvl] at hS ⊢
    have hcs : Slc w6 10 encCell (fun _ => True) a2 x.n y.cells := ownL_slc codCell (hS.get 3 rfl) (fun _ _ => trivial)
    have hS2 := ((hS.sel [1, 3, 0] (by decide)).join (g := cellsE (vs' ++ [x.with a2 c2]) (W.fly.take k ++ [y])) cellsE_local (cellsE_app (hS.get 1 rfl) (cellsE_one ⟨hxy.fro, hxy.life, hxy.epoch, hxy.claim⟩ hcs)) (fun b hb => by
      obtain ⟨z, hz, hb⟩ := cellsE_foot.1 hb
      rcases List.mem_append.1 hz with hz | hz
      · exact .inl (cellsE_foot.2 ⟨z, hz, hb⟩)
      · obtain rfl := List.mem_singleton.1 hz
        exact .inr (foot_own (footN_own hb)))).sel [1, 0] (by decide)
    rw [← hst] at hS2
    (conv => whnf)
    refine RngC.mk (by omega) (by omega) ?_
    (conv => whnf)
    refine LoopE.mk ⟨_, [(11, .int .i64 ((k + 1 : Nat) : Int)), (10, _), (9, _), (3, .slice a3 (k + 1) c3)], ?_, ⟨rfl, rfl, rfl, rfl, trivial⟩, ⟨k + 1, a3, c3, vs' ++ [x.with a2 c2], by rw [List.length_append, hvl]; rfl, rfl, rfl, by omega, hS2⟩⟩
    omega
  · obtain rfl : k = W.fly.length := by omega
    rw [List.take_length] at hS
    repeat' ((conv => whnf); first | refine RetC.mk ?_ | refine NzC.mk (by decide) ?_ | refine RngC.mk (by omega) (by omega) ?_ | refine IdxC.mk (by omega) (by omega) ?_ | refine brD (fun _ => ?_) (fun _ => ?_) | refine brND (fun _ => ?_) (fun _ => ?_) | refine brN (fun _ => ?_) (fun _ => ?_) | refine brI (fun _ => ?_) (fun _ => ?_))
    exact ⟨a', c', vs', rfl, hS.ext, hS.has⟩
theorem fix_new {Y Z : SideA} {A : NodeA} {N : NodeS} {B : BytS} {t : SideS} (hb : A.b = Y.A.b) : fixH X W ⟨Y.s, A⟩ Z ⟨some N, B⟩ t = [blk X.w 96 (encWorld X W), blk Y.s 101 [.pointer (some ⟨A.n, 0, none⟩), .pointer (some ⟨Y.A.b, 0, none⟩)], blk Z.s 101 (encSide Z t), ownL 92 5 encRule (.slice X.ra W.rules.length X.rc) W.rules, ownL 107 5 encNV (.slice X.fa W.fly.length X.fc) X.vs, cellsE X.vs W.fly, ownL 64 2 encEv (.slice X.ea W.events.length X.ec) W.events] := by
  rw [← hb]
  rfl
theorem wcome_ok (n : Int) (h : Stands E q m w X W) : CallC Tryz.prog 16 #[.pointer (some ⟨X.w, 0, none⟩), .int .i64 n] w fun v w' => v = errV E (W.up n).1 ∧ ∃ X', X'.w = X.w ∧ Turns w w' (worldH X W) (worldH X' (W.up n).2) := by
  have hqw : ∀ b, inF (worldH X W) b → q ≤ b := h.high
  by_cases hn : n = 0 ∨ n = 1
  case neg =>
    rw [show W.up n = (2, W) from if_pos (by omega)]
    refine fn_intro tabOk Tryz.func16 (by kernel_rfl) rfl Tryz.ntmps16 (Nat.le_of_ble_eq_true rfl) ?_
    have hS := h.has.start
    (conv => whnf)
    refine brND (fun h1 => ?_) (fun h1 => absurd (.inl h1) hn)
    (conv => whnf)
    refine brND (fun h1 => ?_) (fun h1 => absurd (.inr h1) hn)
    repeat' ((conv => whnf); first | refine RetC.mk ?_ | refine NzC.mk (by decide) ?_ | refine RngC.mk (by omega) (by omega) ?_ | refine IdxC.mk (by omega) (by omega) ?_ | refine hS.ldr (h.errs.at_ 2 rfl) (Errs.out h.errs 2 rfl hqw) ?_ | refine brD (fun _ => ?_) (fun _ => ?_) | refine brND (fun _ => ?_) (fun _ => ?_) | refine brN (fun _ => ?_) (fun _ => ?_) | refine brI (fun _ => ?_) (fun _ => ?_))
    exact ⟨rfl, X, rfl, Turns.refl h.has⟩
  obtain ⟨hH, hQ⟩ := h.half hn
  have hqF : ∀ b, inF (halfH X W n) b → q ≤ b := hQ
  cases hN : (W.side n).node with
  | some N =>
    rw [show W.up n = (11, W) by unfold WorldS.up; rw [if_neg (by omega), hN]]
    rcases hn with rfl | rfl
    all_goals
      refine fn_intro tabOk Tryz.func16 (by kernel_rfl) rfl Tryz.ntmps16 (Nat.le_of_ble_eq_true rfl) ?_
      have hS := hH.start
      (conv => whnf)
      refine IdxC.mk (by decide) (by decide) ?_
      (conv => whnf)
      refine hS.ld 0 rfl rfl ?_
      (conv => whnf)
      refine hS.ld 1 rfl (v := .pointer (some ⟨(X.side _).A.n, 0, none⟩)) (by rw [encSide_some hN]; rfl) ?_
      repeat' ((conv => whnf); first | refine RetC.mk ?_ | refine NzC.mk (by decide) ?_ | refine RngC.mk (by omega) (by omega) ?_ | refine IdxC.mk (by omega) (by omega) ?_ | refine hS.ldr (h.errs.at_ 11 rfl) (Errs.out h.errs 11 rfl hqF) ?_ | refine brD (fun _ => ?_) (fun _ => ?_) | refine brND (fun _ => ?_) (fun _ => ?_) | refine brN (fun _ => ?_) (fun _ => ?_) | refine brI (fun _ => ?_) (fun _ => ?_))
      exact ⟨rfl, X, rfl, Turns.refl h.has⟩
  | none =>
    have hw : W.up n = if (newN n (onB (W.side n).byt) W.rules).1 ≠ 0 then ((newN n (onB (W.side n).byt) W.rules).1, W.setSide n ⟨none, (newN n (onB (W.side n).byt) W.rules).2.2⟩)
        else (0, W.setSide n ⟨some (newN n (onB (W.side n).byt) W.rules).2.1, (newN n (onB (W.side n).byt) W.rules).2.2⟩) := by
      unfold WorldS.up
      rw [if_neg (by omega), hN]
    rw [hw]
    have hBk := (h.ok.side hn).bok
    have hBo := onB_ok hBk
    have hgr := h.ok.rules
    have hT : ∀ {w'} {Y : SideA} {s : SideS}, Y.s = (X.side n).s → Turns w w' (halfH X W n) (fixH X W Y (X.side (1 - n)) s (W.side (1 - n)) ++ sideH Y s) → ∃ X', X'.w = X.w ∧ Turns w w' (worldH X W) (worldH X' (W.setSide n s)) := fun {w'} {Y} {s} hY k => ⟨X.setSide n Y, by rcases hn with rfl | rfl <;> rfl, Turns.side h.has hn hY k⟩
    have hbq : q ≤ (X.side n).A.b := by
      have h1 := hQ
      rw [half_down hN] at h1
      exact h1 _ ⟨_, List.mem_of_getElem? (i := 7) rfl, List.mem_singleton.2 rfl⟩
    have hD := half_down (X := X) hN
    have hns : ∀ {w' : World} {L : List Ent}, St w (inF (halfH X W n)) w' L → L[3]? = some (ownL 92 5 encRule (.slice X.ra W.rules.length X.rc) W.rules) → L[7]? = some (blk (X.side n).A.b 143 (encBy (onB (W.side n).byt))) → Slc w' 5 encRule (fun _ => True) X.ra W.rules.length W.rules ∧ (0 < W.rules.length → ∀ b0 o0, X.ra = some ⟨b0, o0, none⟩ → b0 ≠ (X.side n).A.b) := by
      intro w' L hS h3 h7
      refine ⟨ownL_slc codRule (hS.get 3 h3) (fun _ _ => trivial), fun _ b0 o0 ha he => ?_⟩
      exact hS.apartAt 3 7 h3 h7 (by decide) b0 (foot_own (by rw [ha]; rfl)) (by rw [he]; exact List.mem_singleton.2 rfl)
    generalize hR : newN n (onB (W.side n).byt) W.rules = R
    obtain ⟨T, hTT⟩ : ∃ T : Nat → Prop, ∀ d, T d ↔ d = (X.side n).A.b := ⟨fun d => d = (X.side n).A.b, fun _ => Iff.rfl⟩
    obtain ⟨L, hL⟩ : ∃ L : NodeA → SideA, ∀ A, (L A).s = (X.side n).s ∧ (L A).A = A := ⟨fun A => ⟨(X.side n).s, A⟩, fun _ => ⟨rfl, rfl⟩⟩
    rcases hn with rfl | rfl
    all_goals
      refine fn_intro tabOk Tryz.func16 (by kernel_rfl) rfl Tryz.ntmps16 (Nat.le_of_ble_eq_true rfl) ?_
      have hS := hH.start
      rw [hD] at hS hT
      rw [hD] at hns hqF
      (conv => whnf)
      refine IdxC.mk (by decide) (by decide) ?_
      (conv => whnf)
      refine hS.ld 0 rfl rfl ?_
      (conv => whnf)
      refine hS.ld 1 rfl rfl ?_
      (conv => whnf)
      refine hS.ld 1 rfl rfl ?_
      (conv => whnf)
      refine (bon_ok (hS.blk 7 rfl) hBk.len).mono ?_
      rintro v w' ⟨hx, hB⟩
      replace hS := hS.upd 7 rfl hx (fun c hc => by subst hc; exact List.mem_singleton.2 rfl) (blk_local _ _ _) hB (fun c hc => .inl hc)
      clear hx hB
      obtain ⟨hsl, hsrc⟩ := hns hS rfl rfl
      have hn1 := hS.ne 1 7 rfl rfl (by decide)
      have hn0 := hS.ne 0 7 rfl rfl (by decide)
      have hE := h.errs.ext hS.ext hqF
      (conv => whnf)
      (refine drawS tabOk mixed [] (T) [0, 1, 2, 3, 4, 5, 6, 7, 8, 9, 10, 11, 12, 13, 14] (by kernel_rfl) ?_; rintro w1 rfl; replace hS := hS.drew)
      have hK := hS.ref T
      (conv => whnf)
      refine hS.ldF 1 rfl rfl (fun ht => hn1 ((hTT _).1 ht)) ?_
      (conv => whnf)
      refine hS.ldF 0 rfl rfl (fun ht => hn0 ((hTT _).1 ht)) ?_
      (conv => whnf)
      refine (nnew_ok _ (by decide) (hsl.no (Ext.drawn _ _ _)) (by have := hgr.1; omega) (fault_good.2 hgr) hsrc (hS.blk 7 rfl) hBo rfl ((hE.ext (Ext.drawn No _ _) fun _ h => h.elim).sub rfl) hbq).mono ?_
      rintro v w6 hnew
      have hR' : newN _ ⟨(W.side _).byt.data, false, -1⟩ W.rules = R := hR
      rw [hR'] at hnew
      rcases hnew with ⟨h0, A, hAb, rfl, hk⟩ | ⟨h0, rfl, hk, hB⟩
      · rw [if_neg (fun h => h h0)]
        replace hK := hK.trans (hk.ext.mono fun d hd => (hTT d).2 (by obtain ⟨e, he, hd⟩ := hd; obtain rfl := List.mem_singleton.1 he; exact List.mem_singleton.1 hd))
        refine KeepC.mk hK ?_
        have hS2 := St.callAt (A := [_, _, _, _, _, _, _]) (B := []) hS hk
        (conv => whnf)
        refine hS2.st 1 rfl (by exact Nat.le_of_ble_eq_true rfl) rfl (fun w' hS3 => ?_)
        repeat' ((conv => whnf); first | refine RetC.mk ?_ | refine NzC.mk (by decide) ?_ | refine RngC.mk (by omega) (by omega) ?_ | refine IdxC.mk (by omega) (by omega) ?_ | refine brD (fun _ => ?_) (fun _ => ?_) | refine brND (fun _ => ?_) (fun _ => ?_) | refine brN (fun _ => ?_) (fun _ => ?_) | refine brI (fun _ => ?_) (fun _ => ?_))
        refine ⟨rfl, hT (Y := ⟨(X.side _).s, A⟩) (s := ⟨some R.2.1, R.2.2⟩) rfl ?_⟩
        rw [fix_new hAb]
        exact St.turns hS3
      · rw [if_pos h0]
        obtain ⟨j, hj⟩ : ∃ j, R.1 = j + 1 := ⟨R.1 - 1, by omega⟩
        replace hK := hK.trans (hk.mono fun d hd => (hTT d).2 hd)
        refine KeepC.mk hK ?_
        have hS2 := hS.upd 7 rfl hk (fun c hc => by subst hc; exact List.mem_singleton.2 rfl) (blk_local _ _ _) hB (fun c hc => .inl hc)
        rw [hj]
        repeat' ((conv => whnf); first | refine RetC.mk ?_ | refine NzC.mk (by decide) ?_ | refine RngC.mk (by omega) (by omega) ?_ | refine IdxC.mk (by omega) (by omega) ?_ | refine brD (fun _ => ?_) (fun _ => ?_) | refine brND (fun _ => ?_) (fun _ => ?_) | refine brN (fun _ => ?_) (fun _ => ?_) | refine brI (fun _ => ?_) (fun _ => ?_))
        exact ⟨rfl, hT (Y := X.side _) (s := ⟨none, R.2.2⟩) rfl (St.turns hS2)⟩
end
end Go.Proofs.YtoaghhcjlfiflaaGreatDoor

namespace Go.Proofs.YtoaghhcjlfiflaaGreatDoor
open Go Ev
theorem notes_cells (N : NodeS) (c : Bool) : ∀ n ∈ (N.notes c).1, (n.claim = true ∧ n.cells = []) ∨ (n.claim = false ∧ n.cells = cellsOfN (N.notes c).1) := by
  cases hb : N.beat
  · cases c
    · rw [notes_ff hb]
      intro n hn
      cases hn
    · rw [notes_tf hb]
      intro n hn
      obtain rfl := List.mem_singleton.1 hn
      exact .inl ⟨rfl, rfl⟩
  · rw [notes_t hb]
    intro n hn
    rcases List.mem_cons.1 hn with rfl | hn
    · exact .inl ⟨rfl, rfl⟩
    · obtain rfl := List.mem_singleton.1 hn
      exact .inr ⟨rfl, by simp [cellsOfN]⟩
theorem tick_cells (N : NodeS) (B : BytS) : ∀ n ∈ (N.tick B).2.1, (n.claim = true ∧ n.cells = []) ∨ (n.claim = false ∧ n.cells = cellsOfN (N.tick B).2.1) := by
  unfold NodeS.tick
  split
  · intro n hn
    cases hn
  split
  · split
    · intro n hn
      cases hn
    · exact notes_cells _ _
  · exact notes_cells _ _
theorem notes_short (N : NodeS) (c : Bool) : (N.notes c).1.length ≤ 2 := by
  cases hb : N.beat
  · cases c
    · rw [notes_ff hb]
      exact Nat.zero_le _
    · rw [notes_tf hb]
      exact Nat.le_succ _
  · rw [notes_t hb]
    exact Nat.le_refl _
theorem tick_short (N : NodeS) (B : BytS) : (N.tick B).2.1.length ≤ 2 := by
  unfold NodeS.tick
  split
  · exact Nat.zero_le _
  split
  · split
    · exact Nat.zero_le _
    · exact notes_short _ _
  · exact notes_short _ _
end Go.Proofs.YtoaghhcjlfiflaaGreatDoor

namespace Go.Proofs.YtoaghhcjlfiflaaGreatDoor.Ev
open Go
def loopsL : Code → List Code
  | .loop c => c :: loopsL c
  | .seq a b => loopsL a ++ loopsL b
  | .cond _ a b => loopsL a ++ loopsL b
  | .block _ c => loopsL c
  | .scope c => loopsL c
  | _ => []
def loopAt (f : Func) (i : Nat) : Code := match f.body with
  | some c => (loopsL c).getD i .skip
  | none => .skip
theorem St.as {w0 w : World} {S : Nat → Prop} {H H' : List Ent} (h : St w0 S w H) (e : H = H') : St w0 S w H' := e ▸ h
end Go.Proofs.YtoaghhcjlfiflaaGreatDoor.Ev

namespace Go.Proofs.YtoaghhcjlfiflaaGreatDoor
open Go Ev
section
variable {w : World}
theorem slc_nil {α : Type} (w : World) (sz : Nat) (enc : α → List Value) (G : α → Prop) (a : Option Addr) : Slc w sz enc G a 0 [] := ⟨rfl, by decide, fun k x hk => by simp at hk, fun x hx => by simp at hx⟩
end
end Go.Proofs.YtoaghhcjlfiflaaGreatDoor
