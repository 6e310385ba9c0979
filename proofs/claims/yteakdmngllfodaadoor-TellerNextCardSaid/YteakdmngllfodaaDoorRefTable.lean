
/-
  The reference's table, walked: it does what package table does.
-/
import Derived.Test.YteakdmngllfodaaDoorTableB
import Derived.Test.YteakdmngllfodaaDoorRefMirror
namespace Go.Proofs.YteakdmngllfodaaDoor
open Go Ev

/-- The reference's table: its variable, and the row of its cells. -/
def refT (bt g c : Nat) (T : MirS) : Ent := ⟨[bt, g], fun w => bt ≠ g ∧ Blk w bt 75 [.int .i64 T.life, .slice (some ⟨g, 0, none⟩) 32 c] ∧ (ownL 55 10 encCell (.slice (some ⟨g, 0, none⟩) 32 c) T.cells).holds w⟩
theorem refT_local {bt g c : Nat} {T : MirS} : (refT bt g c T).Local := fun w w' h ⟨h1, h2, h3⟩ =>
  ⟨h1, blk_local bt _ _ w w' (fun b hb => h b (by simp [blk] at hb; simp [refT, hb])) h2, ownL_local w w' (fun b hb => h b (by simp [ownL, own, Value.ownBlock] at hb; simp [refT, hb])) h3⟩

section
variable {w : World} {bt g c : Nat} {T : MirS}
theorem refT_first (h : (refT bt g c T).holds w) : w.cell? ⟨bt, 0, none⟩ = some (.int .i64 T.life) := h.2.1.cell 0
theorem refT_l (h : (refT bt g c T).holds w) : w.cell? ⟨bt, 1, none⟩ = some (.slice (some ⟨g, 0, none⟩) 32 c) := h.2.1.cell 1
theorem refT_slc (h : (refT bt g c T).holds w) : Slc w 10 encCell (fun _ => True) (some ⟨g, 0, none⟩) 32 T.cells := by
  obtain ⟨_, _, h3⟩ := h
  have hl : T.cells.length = 32 := by
    obtain ⟨_, ⟨h4, _⟩ | ⟨g', cap, cur, h4, _⟩⟩ := h3
    · cases h4
    · simp only [Value.slice.injEq] at h4
      exact h4.2.1.symm
  have := ownL_slc (G := fun _ => True) codCell h3 fun _ _ => trivial
  exact this
theorem refT_at (h : (refT bt g c T).holds w) {k : Nat} {x : CellS} (hx : T.cells[k]? = some x) : CellsAt w g (k * 10) (encCell x) := by
  obtain ⟨b, o, h1, _, h2⟩ := (refT_slc h).cells k x hx
  cases h1
  rw [Nat.zero_add] at h2
  exact h2
theorem refT_ext {w' : World} (h : (refT bt g c T).holds w) (hx : Ext No w w') : (refT bt g c T).holds w' :=
  refT_local w w' (fun b hb => hx.block b (by
    simp only [refT, List.mem_cons, List.not_mem_nil, or_false] at hb
    rcases hb with rfl | rfl
    · exact h.2.1.lt
    · exact own_lt h.2.2) id) h

theorem rfind_ok (pr ia ip fa fp : Int) (hT : (refT bt g c T).holds w) :
    CallC Tryd.prog 40 #[.pointer (some ⟨bt, 0, none⟩), .int .i64 pr, .agg #[.int .i64 ia, .int .i64 ip], .agg #[.int .i64 fa, .int .i64 fp]] w fun v w' => v = .int .i64 (T.find pr ia ip fa fp) ∧ Ext No w w' := by
  have hl := (refT_slc hT).len
  unfold MirS.find
  refine fn_intro tabOk Tryd.func40 (by kernel_rfl) rfl Tryd.ntmps40 (Nat.le_of_ble_eq_true rfl) ?_
  have hS := St.start w No
  (conv => whnf)
  refine hS.new (fun b6 w' _ hS => ?_)
  (conv => whnf)
  refine hS.new (fun b7 w' _ hS => ?_)
  (conv => whnf)
  refine loopR tabOk (fun σ w' q => ∃ k : Nat, σ = [(9, .int .i64 k), (7, .pointer (some ⟨b7, 0, none⟩)), (6, .pointer (some ⟨b6, 0, none⟩)), (1, .int .i64 pr), (0, .pointer (some ⟨bt, 0, none⟩))] ∧ q = 32 - k ∧ k ≤ 32 ∧ St w No w' [blk b6 36 [.int .i64 ia, .int .i64 ip], blk b7 36 [.int .i64 fa, .int .i64 fp]] ∧
      idxI (there (fitF pr ia ip fa fp)) T.cells 0 = idxI (there (fitF pr ia ip fa fp)) (T.cells.drop k) k)
    (σ' := [(9, .int .i64 ((0 : Nat) : Int)), (7, .pointer (some ⟨b7, 0, none⟩)), (6, .pointer (some ⟨b6, 0, none⟩)), (1, .int .i64 pr), (0, .pointer (some ⟨bt, 0, none⟩))]) (n := 32) ⟨rfl, rfl, rfl, rfl, rfl, trivial⟩ ⟨0, rfl, rfl, Nat.zero_le _, hS, by simp⟩ ?_
  clear hS
  rintro _ w1 q ⟨k, rfl, rfl, hk, hS, hi⟩
  (conv => whnf)
  refine hS.ldr (refT_l hT) id ?_
  (conv => whnf)
  refine brD (fun h3 => ?_) (fun h3 => ?_)
  · obtain ⟨x, hxk⟩ : ∃ x, T.cells[k]? = some x := ⟨_, List.getElem?_eq_getElem (by omega)⟩
    have hst := idxI_step (there (fitF pr ia ip fa fp)) hxk
    (conv => whnf)
    refine hS.ldr (refT_l hT) id ?_
    (conv => whnf)
    refine IdxC.mk (by omega) (by omega) ?_
    (conv => whnf)
    refine hS.lar (l := encFlow x.f) rfl (show CellsAt w g (0 + Int.toNat (k : Int) * 10 + 2) (encFlow x.f) by rw [Nat.zero_add]; exact (refT_at hT hxk).sub 2 (l' := encFlow x.f) rfl) id ?_
    (conv => whnf)
    refine hS.new (fun b10 w' _ hS => ?_)
    (conv => whnf)
    refine hS.st 2 rfl (Nat.le_of_ble_eq_true rfl) rfl (fun w' hS => ?_)
    replace hS : St w No w' [blk b6 36 [.int .i64 ia, .int .i64 ip], blk b7 36 [.int .i64 fa, .int .i64 fp], blk b10 38 (encFlow x.f)] := hS
    have next : there (fitF pr ia ip fa fp) x = false → idxI (there (fitF pr ia ip fa fp)) T.cells 0 = idxI (there (fitF pr ia ip fa fp)) (T.cells.drop (k + 1)) (k + 1) := fun h => by rw [hi, hst, h]
    repeat' ((conv => whnf); first | refine RetC.mk ?_ | refine NzC.mk (by decide) ?_ | refine RngC.mk (by omega) (by omega) ?_ | refine IdxC.mk (by omega) (by omega) ?_ | refine hS.ld 2 rfl rfl ?_ | refine hS.la 2 rfl (l := [.int .i64 x.f.ia, .int .i64 x.f.ip]) rfl rfl ?_ | refine hS.la 2 rfl (l := [.int .i64 x.f.fa, .int .i64 x.f.fp]) rfl rfl ?_ | refine hS.la 0 rfl (l := [.int .i64 ia, .int .i64 ip]) rfl rfl ?_ | refine hS.la 1 rfl (l := [.int .i64 fa, .int .i64 fp]) rfl rfl ?_ | refine eqEnd ?_ | refine brD (fun _ => ?_) (fun _ => ?_) | refine brND (fun _ => ?_) (fun _ => ?_) | refine brN (fun _ => ?_) (fun _ => ?_) | refine brI (fun _ => ?_) (fun _ => ?_))
    all_goals first
      | exact LoopE.mk ⟨_, [(9, .int .i64 ((k + 1 : Nat) : Int)), (7, _), (6, _), (1, _), (0, _)], by omega, ⟨rfl, rfl, rfl, rfl, rfl, trivial⟩, ⟨k + 1, rfl, rfl, by omega, hS.keep 2, next (by simp_all [there, fitF])⟩⟩
      | exact ⟨by rw [hi, hst, show there (fitF pr ia ip fa fp) x = true by simp_all [there, fitF]], hS.ext⟩
      | trace_state
  · obtain rfl : k = 32 := by omega
    repeat' ((conv => whnf); first | refine RetC.mk ?_ | refine NzC.mk (by decide) ?_ | refine RngC.mk (by omega) (by omega) ?_ | refine IdxC.mk (by omega) (by omega) ?_ | refine brD (fun _ => ?_) (fun _ => ?_) | refine brND (fun _ => ?_) (fun _ => ?_) | refine brN (fun _ => ?_) (fun _ => ?_) | refine brI (fun _ => ?_) (fun _ => ?_))
    rw [hi, List.drop_of_length_le (by omega)]
    exact ⟨rfl, hS.ext⟩

theorem rback_ok (pr po fa fp : Int) (hT : (refT bt g c T).holds w) :
    CallC Tryd.prog 41 #[.pointer (some ⟨bt, 0, none⟩), .int .i64 pr, .int .i64 po, .agg #[.int .i64 fa, .int .i64 fp]] w fun v w' => v = .int .i64 (T.back pr po fa fp) ∧ Ext No w w' := by
  have hl := (refT_slc hT).len
  unfold MirS.back
  refine fn_intro tabOk Tryd.func41 (by kernel_rfl) rfl Tryd.ntmps41 (Nat.le_of_ble_eq_true rfl) ?_
  have hS := St.start w No
  (conv => whnf)
  refine hS.new (fun b7 w' _ hS => ?_)
  (conv => whnf)
  refine loopR tabOk (fun σ w' q => ∃ k : Nat, σ = [(9, .int .i64 k), (7, .pointer (some ⟨b7, 0, none⟩)), (2, .int .i64 po), (1, .int .i64 pr), (0, .pointer (some ⟨bt, 0, none⟩))] ∧ q = 32 - k ∧ k ≤ 32 ∧ St w No w' [blk b7 36 [.int .i64 fa, .int .i64 fp]] ∧
      idxI (there (fitB pr po fa fp)) T.cells 0 = idxI (there (fitB pr po fa fp)) (T.cells.drop k) k)
    (σ' := [(9, .int .i64 ((0 : Nat) : Int)), (7, .pointer (some ⟨b7, 0, none⟩)), (2, .int .i64 po), (1, .int .i64 pr), (0, .pointer (some ⟨bt, 0, none⟩))]) (n := 32) ⟨rfl, rfl, rfl, rfl, rfl, trivial⟩ ⟨0, rfl, rfl, Nat.zero_le _, hS, by simp⟩ ?_
  clear hS
  rintro _ w1 q ⟨k, rfl, rfl, hk, hS, hi⟩
  (conv => whnf)
  refine hS.ldr (refT_l hT) id ?_
  (conv => whnf)
  refine brD (fun h3 => ?_) (fun h3 => ?_)
  · obtain ⟨x, hxk⟩ : ∃ x, T.cells[k]? = some x := ⟨_, List.getElem?_eq_getElem (by omega)⟩
    have hst := idxI_step (there (fitB pr po fa fp)) hxk
    (conv => whnf)
    refine hS.ldr (refT_l hT) id ?_
    (conv => whnf)
    refine IdxC.mk (by omega) (by omega) ?_
    (conv => whnf)
    refine hS.lar (l := encFlow x.f) rfl (show CellsAt w g (0 + Int.toNat (k : Int) * 10 + 2) (encFlow x.f) by rw [Nat.zero_add]; exact (refT_at hT hxk).sub 2 (l' := encFlow x.f) rfl) id ?_
    (conv => whnf)
    refine hS.new (fun b10 w' _ hS => ?_)
    (conv => whnf)
    refine hS.st 1 rfl (Nat.le_of_ble_eq_true rfl) rfl (fun w' hS => ?_)
    replace hS : St w No w' [blk b7 36 [.int .i64 fa, .int .i64 fp], blk b10 38 (encFlow x.f)] := hS
    have next : there (fitB pr po fa fp) x = false → idxI (there (fitB pr po fa fp)) T.cells 0 = idxI (there (fitB pr po fa fp)) (T.cells.drop (k + 1)) (k + 1) := fun h => by rw [hi, hst, h]
    repeat' ((conv => whnf); first | refine RetC.mk ?_ | refine NzC.mk (by decide) ?_ | refine RngC.mk (by omega) (by omega) ?_ | refine IdxC.mk (by omega) (by omega) ?_ | refine hS.ld 1 rfl rfl ?_ | refine hS.la 1 rfl (l := [.int .i64 x.f.fa, .int .i64 x.f.fp]) rfl rfl ?_ | refine hS.la 0 rfl (l := [.int .i64 fa, .int .i64 fp]) rfl rfl ?_ | refine eqEnd ?_ | refine brD (fun _ => ?_) (fun _ => ?_) | refine brND (fun _ => ?_) (fun _ => ?_) | refine brN (fun _ => ?_) (fun _ => ?_) | refine brI (fun _ => ?_) (fun _ => ?_))
    all_goals first
      | exact LoopE.mk ⟨_, [(9, .int .i64 ((k + 1 : Nat) : Int)), (7, _), (2, _), (1, _), (0, _)], by omega, ⟨rfl, rfl, rfl, rfl, rfl, trivial⟩, ⟨k + 1, rfl, rfl, by omega, hS.keep 1, next (by simp_all [there, fitB])⟩⟩
      | exact ⟨by rw [hi, hst, show there (fitB pr po fa fp) x = true by simp_all [there, fitB]], hS.ext⟩
      | trace_state
  · obtain rfl : k = 32 := by omega
    repeat' ((conv => whnf); first | refine RetC.mk ?_ | refine NzC.mk (by decide) ?_ | refine RngC.mk (by omega) (by omega) ?_ | refine IdxC.mk (by omega) (by omega) ?_ | refine brD (fun _ => ?_) (fun _ => ?_) | refine brND (fun _ => ?_) (fun _ => ?_) | refine brN (fun _ => ?_) (fun _ => ?_) | refine brI (fun _ => ?_) (fun _ => ?_))
    rw [hi, List.drop_of_length_le (by omega)]
    exact ⟨rfl, hS.ext⟩

theorem refT_lt (hT : (refT bt g c T).holds w) : bt < w.heap.size ∧ g < w.heap.size := ⟨hT.2.1.lt, own_lt hT.2.2⟩
/-- The table's own row has turned, and nothing else. -/
theorem refT_put {w' : World} {L : List CellS} (hT : (refT bt g c T).holds w) (hx : Ext (· = g) w w') (hO : (ownL 55 10 encCell (.slice (some ⟨g, 0, none⟩) 32 c) L).holds w') : (refT bt g c ⟨T.life, L⟩).holds w' :=
  ⟨hT.1, hx.blk hT.2.1 hT.1, hO⟩

theorem change_ok (k : Nat) (f : FlowS) {x : CellS} (hT : (refT bt g c T).holds w) (hx : T.cells[k]? = some x) (hs : x.slot = k) (hv : 0 ≤ x.ver ∧ x.ver < 9223372036854775807) :
    CallC Tryd.prog 65 #[.pointer (some ⟨bt, 0, none⟩), .int .i64 k, .agg (encFlow f).toArray] w fun v w' => Ext (· = g) w w' ∧ (refT bt g c ⟨T.life, setF T.cells k f⟩).holds w' := by
  have hl := (refT_slc hT).len
  have hlt := (List.getElem?_eq_some_iff.1 hx).1
  obtain ⟨l1, l2⟩ := refT_lt hT
  have hne := hT.1
  refine fn_intro tabOk Tryd.func65 (by kernel_rfl) rfl Tryd.ntmps65 (Nat.le_of_ble_eq_true rfl) ?_
  have hS := (St.start w (· = g)).add ownL_local hT.2.2 (by simp [ownL, own, Value.ownBlock]; exact l2) (by simp)
  (conv => whnf)
  refine hS.new (fun b5 w' hb5 hS => ?_)
  have h5 : ¬ b5 = g := by omega
  have hcx : CellsAt w' g (0 + Int.toNat (k : Int) * 10) (encCell x) := by
    obtain ⟨b, o, h1, _, h2⟩ := (ownL_slc (G := fun _ => True) codCell (hS.get 0 rfl) fun _ _ => trivial).cells k x hx
    cases h1
    exact h2
  (conv => whnf)
  (refine drawS tabOk mixed [13] (· = g) [0, 1, 2, 3, 4, 5, 6, 7, 8, 9, 10, 11, 12, 15, 13, 14, 16, 17, 18] (by kernel_rfl) ?_; rintro w1 rfl; replace hS := hS.drew)
  repeat' ((conv => whnf); first | refine IdxC.mk (by omega) (by omega) ?_ | refine hS.ldrF (refT_l hT) hne hne ?_ | refine hS.laF 1 rfl (l := encFlow f) rfl rfl h5 ?_ | (refine ldc (hcx.one 1 rfl) ?_; refine KeepC.mk (Ext.refl _ _) ?_) | refine RngC.mk (by omega) (by omega) ?_)
  refine hS.putCell (k := k) (x := ⟨(k : Int), x.ver + 1, f⟩) 0 rfl hx (by simp) (fun w' hx' hS => ?_)
  refine KeepC.mk hx' ?_
  repeat' ((conv => whnf); first | refine RetC.mk ?_ | refine NzC.mk (by decide) ?_ | refine RngC.mk (by omega) (by omega) ?_ | refine IdxC.mk (by omega) (by omega) ?_ | refine brD (fun _ => ?_) (fun _ => ?_) | refine brND (fun _ => ?_) (fun _ => ?_) | refine brN (fun _ => ?_) (fun _ => ?_) | refine brI (fun _ => ?_) (fun _ => ?_))
  refine ⟨hS.ext, refT_put hT hS.ext ?_⟩
  rw [setF_at hx, hs]
  exact hS.get 0 rfl

theorem rlay_ok (f : FlowS) (hT : (refT bt g c T).holds w) {n : Nat} (hO : TOk n T) (hn : n ≤ 100000) :
    CallC Tryd.prog 62 #[.pointer (some ⟨bt, 0, none⟩), .agg (encFlow f).toArray] w fun v w' => v = .tuple #[.int .i64 (atI (T.lay f).1.1), .int .i64 (T.lay f).1.2] ∧ Ext (· = g) w w' ∧ (refT bt g c (T.lay f).2).holds w' := by
  have hl := hO.len
  unfold MirS.lay
  refine fn_intro tabOk Tryd.func62 (by kernel_rfl) rfl Tryd.ntmps62 (Nat.le_of_ble_eq_true rfl) ?_
  have hS := St.start w No
  (conv => whnf)
  refine hS.new (fun b3 w' hb3 hS => ?_)
  (conv => whnf)
  refine loopR tabOk (fun σ w' q => ∃ k : Nat, σ = [(6, .int .i64 k), (3, .pointer (some ⟨b3, 0, none⟩)), (0, .pointer (some ⟨bt, 0, none⟩))] ∧ q = 32 - k ∧ k ≤ 32 ∧ St w No w' [blk b3 38 (encFlow f)] ∧
      idxI proto0 T.cells 0 = idxI proto0 (T.cells.drop k) k)
    (σ' := [(6, .int .i64 ((0 : Nat) : Int)), (3, .pointer (some ⟨b3, 0, none⟩)), (0, .pointer (some ⟨bt, 0, none⟩))]) (n := 32) ⟨rfl, rfl, rfl, trivial⟩ ⟨0, rfl, rfl, Nat.zero_le _, hS, by simp⟩ ?_
  clear hS
  rintro _ w1 q ⟨k, rfl, rfl, hk, hS, hi⟩
  (conv => whnf)
  refine hS.ldr (refT_l hT) id ?_
  (conv => whnf)
  refine brD (fun h3 => ?_) (fun h3 => ?_)
  · obtain ⟨x, hxk⟩ : ∃ x, T.cells[k]? = some x := ⟨_, List.getElem?_eq_getElem (by omega)⟩
    have hst := idxI_step proto0 hxk
    have hcx := refT_at hT hxk
    have hp := hcx.one 2 rfl
    (conv => whnf)
    refine hS.ldr (refT_l hT) id ?_
    (conv => whnf)
    refine IdxC.mk (by omega) (by omega) ?_
    (conv => whnf)
    refine hS.ldr (show w.cell? ⟨g, 0 + Int.toNat (k : Int) * 10 + 2 + 0, none⟩ = _ by rw [Nat.zero_add]; exact hp) id ?_
    (conv => whnf)
    refine brD (fun h4 => ?_) (fun h4 => ?_)
    · have hidx : idxI proto0 T.cells 0 = k := by rw [hi, hst, show proto0 x = true by simp [proto0, h4]]
      have hxv := hO.ver x (List.mem_of_getElem? hxk)
      (conv => whnf)
      refine hS.la 0 rfl (l := encFlow f) rfl rfl ?_
      (conv => whnf)
      refine (change_ok k f (refT_ext hT hS.ext) hxk (hO.slot k x hxk) (by omega)).mono ?_
      rintro v w' ⟨hx, hT'⟩
      repeat' ((conv => whnf); first | refine RetC.mk ?_ | refine NzC.mk (by decide) ?_ | refine RngC.mk (by omega) (by omega) ?_ | refine IdxC.mk (by omega) (by omega) ?_ | refine brD (fun _ => ?_) (fun _ => ?_) | refine brND (fun _ => ?_) (fun _ => ?_) | refine brN (fun _ => ?_) (fun _ => ?_) | refine brI (fun _ => ?_) (fun _ => ?_))
      rw [hidx, if_neg (by omega)]
      exact ⟨by simp [atI]; omega, (hS.ext.of_no).trans hx, by simpa using hT'⟩
    · (conv => whnf)
      refine RngC.mk (by omega) (by omega) ?_
      (conv => whnf)
      exact LoopE.mk ⟨_, [(6, .int .i64 ((k + 1 : Nat) : Int)), (3, _), (0, _)], by omega, ⟨rfl, rfl, rfl, trivial⟩, ⟨k + 1, rfl, rfl, by omega, hS, by rw [hi, hst, show proto0 x = false by simp [proto0, h4]]⟩⟩
  · obtain rfl : k = 32 := by omega
    repeat' ((conv => whnf); first | refine RetC.mk ?_ | refine NzC.mk (by decide) ?_ | refine RngC.mk (by omega) (by omega) ?_ | refine IdxC.mk (by omega) (by omega) ?_ | refine brD (fun _ => ?_) (fun _ => ?_) | refine brND (fun _ => ?_) (fun _ => ?_) | refine brN (fun _ => ?_) (fun _ => ?_) | refine brI (fun _ => ?_) (fun _ => ?_))
    have hidx : idxI proto0 T.cells 0 = -1 := by rw [hi, List.drop_of_length_le (by omega)]; rfl
    rw [hidx, if_pos (by omega)]
    exact ⟨rfl, hS.ext.of_no, refT_ext hT hS.ext⟩

theorem lay_at (T : MirS) (f : FlowS) : atI (T.lay f).1.1 = (T.lay f).1.1 := by
  unfold MirS.lay
  split
  · rfl
  · unfold atI
    rw [if_neg (by assumption)]
theorem radd_ok (pr ia ip fa fp st un : Int) (hT : (refT bt g c T).holds w) {n : Nat} (hO : TOk n T) (hn : n ≤ 100000) (hF : 0 ≤ T.life ∧ T.life ≤ 100000) :
    CallC Tryd.prog 15 #[.pointer (some ⟨bt, 0, none⟩), .int .i64 pr, .agg #[.int .i64 ia, .int .i64 ip], .agg #[.int .i64 fa, .int .i64 fp], .int .i64 st, .int .i64 un] w fun v w' => v = .tuple #[.int .i64 (T.add pr ia ip fa fp st un).1.1, .int .i64 (T.add pr ia ip fa fp st un).1.2] ∧ Ext (· = g) w w' ∧ (refT bt g c (T.add pr ia ip fa fp st un).2).holds w' := by
  unfold MirS.add
  refine fn_intro tabOk Tryd.func15 (by kernel_rfl) rfl Tryd.ntmps15 (Nat.le_of_ble_eq_true rfl) ?_
  have hS := St.start w No
  (conv => whnf)
  refine hS.new (fun b8 w' hb8 hS => ?_)
  (conv => whnf)
  refine hS.new (fun b9 w' hb9 hS => ?_)
  (conv => whnf)
  refine hS.la 0 rfl (l := [.int .i64 ia, .int .i64 ip]) rfl rfl ?_
  (conv => whnf)
  refine hS.la 1 rfl (l := [.int .i64 fa, .int .i64 fp]) rfl rfl ?_
  (conv => whnf)
  refine (rfind_ok pr ia ip fa fp (refT_ext hT hS.ext)).mono ?_
  rintro v w2 ⟨rfl, hx⟩
  replace hS := hS.no hx
  clear hx
  generalize T.find pr ia ip fa fp = k
  (conv => whnf)
  refine brD (fun h1 => ?_) (fun h1 => ?_)
  · rw [if_pos h1]
    repeat' ((conv => whnf); first | refine RetC.mk ?_ | refine NzC.mk (by decide) ?_ | refine RngC.mk (by omega) (by omega) ?_ | refine IdxC.mk (by omega) (by omega) ?_ | refine brD (fun _ => ?_) (fun _ => ?_) | refine brND (fun _ => ?_) (fun _ => ?_) | refine brN (fun _ => ?_) (fun _ => ?_) | refine brI (fun _ => ?_) (fun _ => ?_))
    exact ⟨rfl, hS.ext.of_no, refT_ext hT hS.ext⟩
  rw [if_neg h1]
  generalize hPP : portF T pr fa fp 24 0 = PP
  (conv => whnf)
  refine loopR tabOk (fun σ w' q => ∃ i : Nat, σ = [(14, .int .i64 i), (9, .pointer (some ⟨b9, 0, none⟩)), (8, .pointer (some ⟨b8, 0, none⟩)), (5, .int .i64 un), (4, .int .i64 st), (1, .int .i64 pr), (0, .pointer (some ⟨bt, 0, none⟩))] ∧ q = 24 - i ∧ i ≤ 24 ∧
      St w No w' [blk b8 36 [.int .i64 ia, .int .i64 ip], blk b9 36 [.int .i64 fa, .int .i64 fp]] ∧ PP = portF T pr fa fp (24 - i) i)
    (σ' := [(14, .int .i64 ((0 : Nat) : Int)), (9, .pointer (some ⟨b9, 0, none⟩)), (8, .pointer (some ⟨b8, 0, none⟩)), (5, .int .i64 un), (4, .int .i64 st), (1, .int .i64 pr), (0, .pointer (some ⟨bt, 0, none⟩))]) (n := 24) ⟨rfl, rfl, rfl, rfl, rfl, rfl, rfl, trivial⟩ ⟨0, rfl, rfl, Nat.zero_le _, hS, hPP.symm⟩ ?_
  clear hS hPP
  rintro _ w1 q ⟨i, rfl, rfl, hi, hS, hp⟩
  (conv => whnf)
  refine brD (fun h3 => ?_) (fun h3 => ?_)
  · have hi2 : 24 - i = (24 - (i + 1)) + 1 := by omega
    rw [hi2] at hp
    unfold portF at hp
    (conv => whnf)
    (refine drawS tabOk mixed [] No [0, 1, 2, 3, 4, 5, 6, 7, 8, 9, 10] (by kernel_rfl) ?_; rintro w1 rfl; replace hS := hS.drew)
    repeat' ((conv => whnf); first | refine RetC.mk ?_ | refine NzC.mk (by decide) ?_ | refine RngC.mk (by omega) (by omega) ?_ | refine IdxC.mk (by omega) (by omega) ?_ | refine hS.ldrF (refT_first hT) id id ?_ | refine hS.laF 1 rfl (l := [.int .i64 fa, .int .i64 fp]) rfl rfl id ?_ | refine brD (fun _ => ?_) (fun _ => ?_) | refine brND (fun _ => ?_) (fun _ => ?_) | refine brN (fun _ => ?_) (fun _ => ?_) | refine brI (fun _ => ?_) (fun _ => ?_))
    refine (rback_ok pr (T.life + i) fa fp (refT_ext hT hS.ext)).mono ?_
    rintro v w2 ⟨rfl, hx⟩
    replace hS := hS.no hx
    refine KeepC.mk hx ?_
    clear hx
    generalize T.back pr (T.life + i) fa fp = j at hp
    (conv => whnf)
    refine brD (fun h4 => ?_) (fun h4 => ?_)
    · rw [if_pos h4] at hp
      subst hp
      have hne := hT.1
      have hlt := refT_lt hT
      (conv => whnf)
      (refine drawS tabOk mixed [] (fun b => b = g) [0, 1, 2, 3, 4, 5, 6, 7, 8, 9, 10, 11, 12, 13, 14, 15, 16, 17] (by kernel_rfl) ?_; rintro w1 rfl; replace hS := hS.drew)
      repeat' ((conv => whnf); first | refine RetC.mk ?_ | refine NzC.mk (by decide) ?_ | refine RngC.mk (by omega) (by omega) ?_ | refine IdxC.mk (by omega) (by omega) ?_ | refine hS.ldrF (refT_first hT) id hne ?_ | refine hS.laF 0 rfl (l := [.int .i64 ia, .int .i64 ip]) rfl rfl (show ¬ b8 = g by omega) ?_ | refine hS.laF 1 rfl (l := [.int .i64 fa, .int .i64 fp]) rfl rfl (show ¬ b9 = g by omega) ?_ | refine brD (fun _ => ?_) (fun _ => ?_) | refine brND (fun _ => ?_) (fun _ => ?_) | refine brN (fun _ => ?_) (fun _ => ?_) | refine brI (fun _ => ?_) (fun _ => ?_))
      refine (rlay_ok ⟨pr, ia, ip, fa, fp, T.life + i, st, un⟩ (refT_ext hT hS.ext) hO hn).mono ?_
      rintro v w' ⟨rfl, hx, hT'⟩
      refine KeepC.mk hx ?_
      repeat' ((conv => whnf); first | refine RetC.mk ?_ | refine NzC.mk (by decide) ?_ | refine RngC.mk (by omega) (by omega) ?_ | refine IdxC.mk (by omega) (by omega) ?_ | refine brD (fun _ => ?_) (fun _ => ?_) | refine brND (fun _ => ?_) (fun _ => ?_) | refine brN (fun _ => ?_) (fun _ => ?_) | refine brI (fun _ => ?_) (fun _ => ?_))
      rw [lay_at]
      exact ⟨rfl, hS.ext.of_no.trans hx, hT'⟩
    · rw [if_neg h4] at hp
      (conv => whnf)
      refine RngC.mk (by omega) (by omega) ?_
      (conv => whnf)
      exact LoopE.mk ⟨_, [(14, .int .i64 ((i + 1 : Nat) : Int)), (9, _), (8, _), (5, _), (4, _), (1, _), (0, _)], by omega, ⟨rfl, rfl, rfl, rfl, rfl, rfl, rfl, trivial⟩, ⟨i + 1, rfl, rfl, by omega, hS, hp⟩⟩
  · obtain rfl : i = 24 := by omega
    rw [show PP = none from hp]
    repeat' ((conv => whnf); first | refine RetC.mk ?_ | refine NzC.mk (by decide) ?_ | refine RngC.mk (by omega) (by omega) ?_ | refine IdxC.mk (by omega) (by omega) ?_ | refine brD (fun _ => ?_) (fun _ => ?_) | refine brND (fun _ => ?_) (fun _ => ?_) | refine brN (fun _ => ?_) (fun _ => ?_) | refine brI (fun _ => ?_) (fun _ => ?_))
    exact ⟨rfl, hS.ext.of_no, refT_ext hT hS.ext⟩

theorem rput_ok (f : FlowS) (hT : (refT bt g c T).holds w) {n : Nat} (hO : TOk n T) (hn : n ≤ 100000) :
    CallC Tryd.prog 33 #[.pointer (some ⟨bt, 0, none⟩), .agg (encFlow f).toArray] w fun v w' => v = .tuple #[.int .i64 (T.put f).1.1, .int .i64 (T.put f).1.2] ∧ Ext (· = g) w w' ∧ (refT bt g c (T.put f).2).holds w' := by
  unfold MirS.put
  refine fn_intro tabOk Tryd.func33 (by kernel_rfl) rfl Tryd.ntmps33 (Nat.le_of_ble_eq_true rfl) ?_
  have hS := St.start w No
  (conv => whnf)
  refine hS.new (fun bf w' hbf hS => ?_)
  repeat' ((conv => whnf); first | refine RetC.mk ?_ | refine NzC.mk (by decide) ?_ | refine RngC.mk (by omega) (by omega) ?_ | refine IdxC.mk (by omega) (by omega) ?_ | refine hS.ld 0 rfl rfl ?_ | refine hS.la 0 rfl (l := [.int .i64 f.ia, .int .i64 f.ip]) rfl rfl ?_ | refine hS.la 0 rfl (l := [.int .i64 f.fa, .int .i64 f.fp]) rfl rfl ?_ | refine brD (fun _ => ?_) (fun _ => ?_) | refine brND (fun _ => ?_) (fun _ => ?_) | refine brN (fun _ => ?_) (fun _ => ?_) | refine brI (fun _ => ?_) (fun _ => ?_))
  refine (rfind_ok f.proto f.ia f.ip f.fa f.fp (refT_ext hT hS.ext)).mono ?_
  rintro v w2 ⟨rfl, hx⟩
  replace hS := hS.no hx
  clear hx
  generalize T.find f.proto f.ia f.ip f.fa f.fp = k
  have lay : ∀ (w3 : World) (K : Value → World → Prop), Ext No w w3 → (∀ w', Ext (· = g) w w' → (refT bt g c (T.lay f).2).holds w' → K (.tuple #[.int .i64 (T.lay f).1.1, .int .i64 (T.lay f).1.2]) w') → CallC Tryd.prog 62 #[.pointer (some ⟨bt, 0, none⟩), .agg (encFlow f).toArray] w3 K := by
    intro w3 K hx hK
    refine (rlay_ok f (refT_ext hT hx) hO hn).mono ?_
    rintro v w' ⟨rfl, hx', hT'⟩
    rw [lay_at]
    exact hK w' (hx.of_no.trans hx') hT'
  (conv => whnf)
  refine brD (fun h1 => ?_) (fun h1 => ?_)
  · rw [if_pos (.inl h1)]
    repeat' ((conv => whnf); first | refine RetC.mk ?_ | refine NzC.mk (by decide) ?_ | refine RngC.mk (by omega) (by omega) ?_ | refine IdxC.mk (by omega) (by omega) ?_ | refine brD (fun _ => ?_) (fun _ => ?_) | refine brND (fun _ => ?_) (fun _ => ?_) | refine brN (fun _ => ?_) (fun _ => ?_) | refine brI (fun _ => ?_) (fun _ => ?_))
    exact ⟨rfl, hS.ext.of_no, refT_ext hT hS.ext⟩
  repeat' ((conv => whnf); first | refine RetC.mk ?_ | refine NzC.mk (by decide) ?_ | refine RngC.mk (by omega) (by omega) ?_ | refine IdxC.mk (by omega) (by omega) ?_ | refine hS.ld 0 rfl rfl ?_ | refine hS.la 0 rfl (l := [.int .i64 f.fa, .int .i64 f.fp]) rfl rfl ?_ | refine brD (fun _ => ?_) (fun _ => ?_) | refine brND (fun _ => ?_) (fun _ => ?_) | refine brN (fun _ => ?_) (fun _ => ?_) | refine brI (fun _ => ?_) (fun _ => ?_))
  refine (rback_ok f.proto f.port f.fa f.fp (refT_ext hT hS.ext)).mono ?_
  rintro v w2 ⟨rfl, hx⟩
  replace hS := hS.no hx
  clear hx
  generalize T.back f.proto f.port f.fa f.fp = j
  (conv => whnf)
  refine brD (fun h2 => ?_) (fun h2 => ?_)
  · rw [if_pos (.inr h2)]
    repeat' ((conv => whnf); first | refine RetC.mk ?_ | refine NzC.mk (by decide) ?_ | refine RngC.mk (by omega) (by omega) ?_ | refine IdxC.mk (by omega) (by omega) ?_ | refine brD (fun _ => ?_) (fun _ => ?_) | refine brND (fun _ => ?_) (fun _ => ?_) | refine brN (fun _ => ?_) (fun _ => ?_) | refine brI (fun _ => ?_) (fun _ => ?_))
    exact ⟨rfl, hS.ext.of_no, refT_ext hT hS.ext⟩
  rw [if_neg (by rintro (h | h); exact h1 h; exact h2 h)]
  (conv => whnf)
  refine hS.la 0 rfl (l := encFlow f) rfl rfl ?_
  (conv => whnf)
  refine lay _ _ hS.ext fun w' hx hT' => ?_
  repeat' ((conv => whnf); first | refine RetC.mk ?_ | refine NzC.mk (by decide) ?_ | refine RngC.mk (by omega) (by omega) ?_ | refine IdxC.mk (by omega) (by omega) ?_ | refine brD (fun _ => ?_) (fun _ => ?_) | refine brND (fun _ => ?_) (fun _ => ?_) | refine brN (fun _ => ?_) (fun _ => ?_) | refine brI (fun _ => ?_) (fun _ => ?_))
  exact ⟨rfl, hx, hT'⟩

theorem flowError_ok (k : Int) (hT : (refT bt g c T).holds w) : CallC Tryd.prog 64 #[.pointer (some ⟨bt, 0, none⟩), .int .i64 k] w fun v w' => v = .int .i64 (T.flowErr k) ∧ w = w' := by
  have hl := (refT_slc hT).len
  unfold MirS.flowErr
  refine fn_intro tabOk Tryd.func64 (by kernel_rfl) rfl Tryd.ntmps64 (Nat.le_of_ble_eq_true rfl) ?_
  by_cases h : k < 0 ∨ 32 ≤ k
  · rw [if_pos h]
    repeat' ((conv => whnf); first | refine RetC.mk ?_ | refine NzC.mk (by decide) ?_ | refine RngC.mk (by omega) (by omega) ?_ | refine IdxC.mk (by omega) (by omega) ?_ | refine ldc (refT_l hT) ?_ | refine brD (fun _ => ?_) (fun _ => ?_) | refine brND (fun _ => ?_) (fun _ => ?_) | refine brN (fun _ => ?_) (fun _ => ?_) | refine brI (fun _ => ?_) (fun _ => ?_))
    all_goals first | exact ⟨rfl, rfl⟩ | (exfalso; omega)
  · rw [if_neg h]
    obtain ⟨x, hx⟩ : ∃ x, T.cells[k.toNat]? = some x := ⟨_, List.getElem?_eq_getElem (by omega)⟩
    have hp := (refT_at hT hx).one 2 rfl
    rw [hx]
    repeat' ((conv => whnf); first | refine RetC.mk ?_ | refine NzC.mk (by decide) ?_ | refine RngC.mk (by omega) (by omega) ?_ | refine IdxC.mk (by omega) (by omega) ?_ | refine ldc (refT_l hT) ?_ | refine ldc (show w.cell? ⟨g, 0 + k.toNat * 10 + 2 + 0, none⟩ = _ by rw [Nat.zero_add]; exact hp) ?_ | refine brD (fun _ => ?_) (fun _ => ?_) | refine brND (fun _ => ?_) (fun _ => ?_) | refine brN (fun _ => ?_) (fun _ => ?_) | refine brI (fun _ => ?_) (fun _ => ?_))
    all_goals first | (exfalso; omega) | skip
    all_goals refine ⟨?_, rfl⟩
    all_goals simp_all

theorem rset_ok (k st un : Int) (hT : (refT bt g c T).holds w) {n : Nat} (hO : TOk n T) (hn : n ≤ 100000) :
    CallC Tryd.prog 17 #[.pointer (some ⟨bt, 0, none⟩), .int .i64 k, .int .i64 st, .int .i64 un] w fun v w' => v = .int .i64 (T.setS k st un).1 ∧ Ext (· = g) w w' ∧ (refT bt g c (T.setS k st un).2).holds w' := by
  have hl := hO.len
  have hin : T.flowErr k = 0 → 0 ≤ k ∧ k < 32 := by
    unfold MirS.flowErr
    split
    · intro h; cases h
    · intro _; omega
  unfold MirS.setS
  refine fn_intro tabOk Tryd.func17 (by kernel_rfl) rfl Tryd.ntmps17 (Nat.le_of_ble_eq_true rfl) ?_
  have hS := St.start w No
  (conv => whnf)
  refine (flowError_ok k hT).mono ?_
  rintro v w2 ⟨rfl, rfl⟩
  by_cases h : T.flowErr k = 0
  · obtain ⟨h0, h1⟩ := hin h
    rw [if_neg (by simpa using h), h]
    obtain ⟨x, hx⟩ : ∃ x, T.cells[k.toNat]? = some x := ⟨_, List.getElem?_eq_getElem (by omega)⟩
    have hxv := hO.ver x (List.mem_of_getElem? hx)
    have hfa : flowAt T k = x.f := by unfold flowAt; rw [hx]
    rw [hfa]
    (conv => whnf)
    refine hS.ldr (refT_l hT) id ?_
    (conv => whnf)
    refine IdxC.mk (by omega) (by omega) ?_
    (conv => whnf)
    refine hS.lar (l := encFlow x.f) rfl (show CellsAt w g (0 + k.toNat * 10 + 2) (encFlow x.f) by rw [Nat.zero_add]; exact (refT_at hT hx).sub 2 (l' := encFlow x.f) rfl) id ?_
    (conv => whnf)
    refine hS.new (fun b10 w' _ hS => ?_)
    (conv => whnf)
    refine hS.st 0 rfl (Nat.le_of_ble_eq_true rfl) rfl (fun w' hS => ?_)
    (conv => whnf)
    refine hS.st 0 rfl (Nat.le_of_ble_eq_true rfl) rfl (fun w' hS => ?_)
    (conv => whnf)
    refine hS.st 0 rfl (Nat.le_of_ble_eq_true rfl) rfl (fun w' hS => ?_)
    replace hS : St w No w' [blk b10 38 (encFlow { x.f with state := st, til := un })] := hS
    (conv => whnf)
    refine hS.la 0 rfl (l := encFlow { x.f with state := st, til := un }) rfl rfl ?_
    (conv => whnf)
    have hkk : k = (k.toNat : Int) := by omega
    have hc := change_ok k.toNat { x.f with state := st, til := un } (refT_ext hT hS.ext) hx (hO.slot _ x hx) (by omega)
    rw [← hkk] at hc
    refine hc.mono ?_
    rintro v w' ⟨hx', hT'⟩
    repeat' ((conv => whnf); first | refine RetC.mk ?_ | refine NzC.mk (by decide) ?_ | refine RngC.mk (by omega) (by omega) ?_ | refine IdxC.mk (by omega) (by omega) ?_ | refine brD (fun _ => ?_) (fun _ => ?_) | refine brND (fun _ => ?_) (fun _ => ?_) | refine brN (fun _ => ?_) (fun _ => ?_) | refine brI (fun _ => ?_) (fun _ => ?_))
    exact ⟨rfl, hS.ext.of_no.trans hx', hT'⟩
  · rw [if_pos h]
    (conv => whnf)
    refine brD (fun h2 => ?_) (fun _ => ?_)
    · exact absurd h2 (by omega)
    repeat' ((conv => whnf); first | refine RetC.mk ?_ | refine NzC.mk (by decide) ?_ | refine RngC.mk (by omega) (by omega) ?_ | refine IdxC.mk (by omega) (by omega) ?_ | refine brD (fun _ => ?_) (fun _ => ?_) | refine brND (fun _ => ?_) (fun _ => ?_) | refine brN (fun _ => ?_) (fun _ => ?_) | refine brI (fun _ => ?_) (fun _ => ?_))
    exact ⟨rfl, Ext.refl _ _, hT⟩

theorem rdrop_ok (k : Int) (hT : (refT bt g c T).holds w) {n : Nat} (hO : TOk n T) (hn : n ≤ 100000) :
    CallC Tryd.prog 19 #[.pointer (some ⟨bt, 0, none⟩), .int .i64 k] w fun v w' => v = .int .i64 (T.drop k).1 ∧ Ext (· = g) w w' ∧ (refT bt g c (T.drop k).2).holds w' := by
  have hl := hO.len
  have hin : T.flowErr k = 0 → 0 ≤ k ∧ k < 32 := by
    unfold MirS.flowErr
    split
    · intro h; cases h
    · intro _; omega
  unfold MirS.drop
  refine fn_intro tabOk Tryd.func19 (by kernel_rfl) rfl Tryd.ntmps19 (Nat.le_of_ble_eq_true rfl) ?_
  (conv => whnf)
  refine (flowError_ok k hT).mono ?_
  rintro v w2 ⟨rfl, rfl⟩
  by_cases h : T.flowErr k = 0
  · obtain ⟨h0, h1⟩ := hin h
    rw [if_neg (by simpa using h), h]
    obtain ⟨x, hx⟩ : ∃ x, T.cells[k.toNat]? = some x := ⟨_, List.getElem?_eq_getElem (by omega)⟩
    have hxv := hO.ver x (List.mem_of_getElem? hx)
    (conv => whnf)
    have hkk : k = (k.toNat : Int) := by omega
    have hc := change_ok k.toNat noFlow hT hx (hO.slot _ x hx) (by omega)
    rw [← hkk] at hc
    refine hc.mono ?_
    rintro v w' ⟨hx', hT'⟩
    repeat' ((conv => whnf); first | refine RetC.mk ?_ | refine NzC.mk (by decide) ?_ | refine RngC.mk (by omega) (by omega) ?_ | refine IdxC.mk (by omega) (by omega) ?_ | refine brD (fun _ => ?_) (fun _ => ?_) | refine brND (fun _ => ?_) (fun _ => ?_) | refine brN (fun _ => ?_) (fun _ => ?_) | refine brI (fun _ => ?_) (fun _ => ?_))
    exact ⟨rfl, hx', hT'⟩
  · rw [if_pos h]
    (conv => whnf)
    refine brD (fun h2 => ?_) (fun _ => ?_)
    · exact absurd h2 (by omega)
    repeat' ((conv => whnf); first | refine RetC.mk ?_ | refine NzC.mk (by decide) ?_ | refine RngC.mk (by omega) (by omega) ?_ | refine IdxC.mk (by omega) (by omega) ?_ | refine brD (fun _ => ?_) (fun _ => ?_) | refine brND (fun _ => ?_) (fun _ => ?_) | refine brN (fun _ => ?_) (fun _ => ?_) | refine brI (fun _ => ?_) (fun _ => ?_))
    exact ⟨rfl, Ext.refl _ _, hT⟩

theorem rexpire_ok (now : Int) (hT : (refT bt g c T).holds w) {m : Nat} (hO : TOk m T) (hmm : m ≤ 1000) :
    CallC Tryd.prog 36 #[.pointer (some ⟨bt, 0, none⟩), .int .i64 now] w fun v w' => (∃ a' c', v = .slice a' (expOut now 32 T.cells).length c') ∧ Ext (fun b => b = bt ∨ b = g) w w' ∧ (refT bt g c (T.expire now)).holds w' ∧ (ownL 3 1 encI v (expOut now 32 T.cells)).holds w' ∧ Fresh w w' v := by
  have hl := hO.len
  obtain ⟨l1, l2⟩ := refT_lt hT
  refine fn_intro tabOk Tryd.func36 (by kernel_rfl) rfl Tryd.ntmps36 (Nat.le_of_ble_eq_true rfl) ?_
  have hS := (St.start w (fun b => b = bt ∨ b = g)).add refT_local hT (by intro b hb; simp only [refT, List.mem_cons, List.not_mem_nil, or_false] at hb; rcases hb with rfl | rfl; exact ⟨.inl (.inl rfl), l1⟩; exact ⟨.inl (.inr rfl), l2⟩) (by simp)
  have hS := hS.add (ownL_local (e := 3) (enc := encI) (sz := 1) (v := .slice none 0 0) (xs := [])) (own_nil _ _ _) (by simp [ownL, own, Value.ownBlock]) (by simp [ownL, own, Value.ownBlock])
  (conv => whnf)
  refine loopR tabOk (fun σ w' q => ∃ (k : Nat) (v : Value), σ = [(6, .int .i64 k), (5, v), (1, .int .i64 now), (0, .pointer (some ⟨bt, 0, none⟩))] ∧ q = 32 - k ∧ k ≤ 32 ∧ (∃ a' c', v = .slice a' (expOut now k T.cells).length c') ∧ St w (fun b => b = bt ∨ b = g) w' [refT bt g c ⟨T.life, expCells now k T.cells⟩, ownL 3 1 encI v (expOut now k T.cells)])
    (σ' := [(6, .int .i64 ((0 : Nat) : Int)), (5, .slice none 0 0), (1, .int .i64 now), (0, .pointer (some ⟨bt, 0, none⟩))]) (n := 32) ⟨rfl, rfl, rfl, rfl, trivial⟩ ⟨0, _, rfl, rfl, Nat.zero_le _, ⟨none, 0, rfl⟩, hS⟩ ?_
  clear hS
  rintro _ w1 q ⟨k, _, rfl, rfl, hk, ⟨a', c', rfl⟩, hS⟩
  (conv => whnf)
  refine ldc (refT_l (hS.get 0 rfl)) ?_
  (conv => whnf)
  refine brD (fun h3 => ?_) (fun h3 => ?_)
  · obtain ⟨x, hxk⟩ : ∃ x, T.cells[k]? = some x := ⟨_, List.getElem?_eq_getElem (by omega)⟩
    have hol := expOut_len now k T.cells
    have hos := expOut_succ (now := now) hxk
    have hcs := expCells_succ (now := now) hxk
    have hca := expCells_at (now := now) hxk
    have hTk := hO.expire now k
    have hcx := refT_at (hS.get 0 rfl) hca
    have c2 : w1.cell? ⟨g, 0 + Int.toNat (k : Int) * 10 + 2 + 0, none⟩ = some (.int .i64 x.f.proto) := by rw [Nat.zero_add]; exact hcx.one 2 rfl
    have c9 : w1.cell? ⟨g, 0 + Int.toNat (k : Int) * 10 + 2 + 7, none⟩ = some (.int .i64 x.f.til) := by rw [Nat.zero_add]; exact hcx.one 9 rfl
    by_cases hx : expC now x = true
    · have h1 : x.f.proto ≠ 0 ∧ x.f.til ≤ now := by simpa [expC] using hx
      rw [if_pos hx] at hos
      have hdr : (MirS.mk T.life (expCells now k T.cells)).drop k = (0, ⟨T.life, expCells now (k + 1) T.cells⟩) := by
        have hfe : (MirS.mk T.life (expCells now k T.cells)).flowErr k = 0 := by
          unfold MirS.flowErr
          rw [if_neg (by omega)]
          simp only [show ((k : Int)).toNat = k by simp, hca]
          simp [h1.1]
        unfold MirS.drop
        rw [hfe, if_neg (by simp), show ((k : Int)).toNat = k by simp]
        simp only [setF_at hca]
        rw [hcs, dropC, if_pos hx]
      repeat' ((conv => whnf); first | refine IdxC.mk (by omega) (by omega) ?_ | refine ldc (refT_l (hS.get 0 rfl)) ?_ | refine ldc c2 ?_ | refine ldc c9 ?_ | refine brND (fun _ => ?_) (fun h => absurd h h1.1) | refine brD (fun _ => ?_) (fun h => absurd h1.2 h))
      refine (rdrop_ok (k : Int) (hS.get 0 rfl) hTk (by omega)).mono ?_
      rw [hdr]
      rintro v w' ⟨rfl, hx', hT'⟩
      replace hS := hS.upd 0 rfl hx' (fun d hd => by subst hd; simp [refT]) refT_local hT' (fun d hd => .inl hd)
      (conv => whnf)
      refine hS.lit (cs := [.int .i64 k]) Tryd.underlying64 (sz := 1) (by kernel_rfl) (z := .int .i64 0) (by kernel_rfl) rfl rfl (by rfl) (fun bl w' hbl hS => ?_)
      (conv => whnf)
      refine hS.appS codInt 1 (ys := [(k : Int)]) (G := fun _ => True) Tryd.underlying64 (bytes := 8) (by kernel_rfl) (z := .int .i64 0) (by kernel_rfl) rfl rfl (Slc.of_blk codInt (hS.blk 2 rfl) rfl (by simp) (fun _ _ => trivial) rfl) (by unfold maxLen; omega) (by omega) (fun a2 c2 w' hS => ?_)
      replace hS := hS.keep 2
      rw [← hos] at hS
      have hl2 : (expOut now k T.cells).length + 1 = (expOut now (k + 1) T.cells).length := by rw [hos]; simp
      rw [hl2] at hS ⊢
      (conv => whnf)
      refine RngC.mk (by omega) (by omega) ?_
      (conv => whnf)
      refine LoopE.mk ⟨_, [(6, .int .i64 ((k + 1 : Nat) : Int)), (5, _), (1, _), (0, _)], ?_, ⟨rfl, rfl, rfl, rfl, trivial⟩, ⟨k + 1, _, rfl, rfl, by omega, ⟨a2, c2, rfl⟩, hS⟩⟩
      omega
    · rw [if_neg hx, List.append_nil] at hos
      have hcs2 : expCells now (k + 1) T.cells = expCells now k T.cells := by
        rw [hcs, dropC, if_neg hx]
        obtain ⟨lt, e⟩ := List.getElem?_eq_some_iff.1 hca
        rw [← e]
        exact List.set_getElem_self lt
      have h1 : x.f.proto ≠ 0 → ¬ x.f.til ≤ now := by
        intro a b
        exact hx (by simp [expC, a, b])
      have hS2 : St w (fun b => b = bt ∨ b = g) w1 [refT bt g c ⟨T.life, expCells now (k + 1) T.cells⟩, ownL 3 1 encI (.slice a' (expOut now k T.cells).length c') (expOut now (k + 1) T.cells)] := by
        rw [hcs2, hos]
        exact hS
      repeat' ((conv => whnf); first | refine IdxC.mk (by omega) (by omega) ?_ | refine RngC.mk (by omega) (by omega) ?_ | refine ldc (refT_l (hS.get 0 rfl)) ?_ | refine ldc c2 ?_ | refine ldc c9 ?_ | refine brND (fun h4 => ?_) (fun _ => ?_) | refine brD (fun h => absurd h (h1 h4)) (fun _ => ?_))
      all_goals exact LoopE.mk ⟨_, [(6, .int .i64 ((k + 1 : Nat) : Int)), (5, _), (1, _), (0, _)], by omega, ⟨rfl, rfl, rfl, rfl, trivial⟩, ⟨k + 1, _, rfl, rfl, by omega, ⟨a', c', by rw [hos]⟩, hS2⟩⟩
  · obtain rfl : k = 32 := by omega
    repeat' ((conv => whnf); first | refine RetC.mk ?_ | refine NzC.mk (by decide) ?_ | refine RngC.mk (by omega) (by omega) ?_ | refine IdxC.mk (by omega) (by omega) ?_ | refine brD (fun _ => ?_) (fun _ => ?_) | refine brND (fun _ => ?_) (fun _ => ?_) | refine brN (fun _ => ?_) (fun _ => ?_) | refine brI (fun _ => ?_) (fun _ => ?_))
    refine ⟨⟨a', c', rfl⟩, hS.ext, hS.get 0 rfl, hS.get 1 rfl, fun q hq => ?_⟩
    obtain ⟨h1, h2⟩ := hS.may _ (List.mem_of_getElem? (i := 1) rfl) q (by simpa [ownL, own] using hq)
    refine ⟨h1.resolve_left ?_, h2⟩
    intro h
    have := pairwise_at apart_symm hS.apart (i := 0) (j := 1) rfl rfl (by decide) q (by simp only [refT, List.mem_cons, List.not_mem_nil, or_false]; exact h)
    exact this (by simpa [ownL, own] using hq)

theorem newTable_ok (nd : Int) (h : nd = 0 ∨ nd = 1) (w : World) :
    CallC Tryd.prog 12 #[.int .i64 nd] w fun v w' => ∃ bt g c, v = .pointer (some ⟨bt, 0, none⟩) ∧ Ext No w w' ∧ (refT bt g c ⟨2000 + nd * 24, emptyCells⟩).holds w' ∧ (∀ b ∈ (refT bt g c ⟨2000 + nd * 24, emptyCells⟩).foot, w.heap.size ≤ b ∧ b < w'.heap.size) := by
  refine fn_intro tabOk Tryd.func12 (by kernel_rfl) rfl Tryd.ntmps12 (Nat.le_of_ble_eq_true rfl) ?_
  have hS := St.start w No
  (conv => whnf)
  refine RngC.mk (by omega) (by omega) ?_
  (conv => whnf)
  refine RngC.mk (by omega) (by omega) ?_
  (conv => whnf)
  refine (empty_ok _).mono ?_
  rintro v w' ⟨g, c, rfl, hx, hO, hF⟩
  replace hS := hS.madeL hx hO hF
  (conv => whnf)
  refine hS.new (fun bt w' hbt hS => ?_)
  repeat' ((conv => whnf); first | refine RetC.mk ?_ | refine NzC.mk (by decide) ?_ | refine RngC.mk (by omega) (by omega) ?_ | refine IdxC.mk (by omega) (by omega) ?_ | refine brD (fun _ => ?_) (fun _ => ?_) | refine brND (fun _ => ?_) (fun _ => ?_) | refine brN (fun _ => ?_) (fun _ => ?_) | refine brI (fun _ => ?_) (fun _ => ?_))
  refine ⟨bt, g, c, rfl, hS.ext, ⟨?_, hS.get 1 rfl, hS.get 0 rfl⟩, ?_⟩
  · have := pairwise_at apart_symm hS.apart (i := 1) (j := 0) rfl rfl (by decide) bt (by simp [blk])
    simpa [ownL, own, Value.ownBlock] using this
  · intro b hb
    simp only [refT, List.mem_cons, List.not_mem_nil, or_false] at hb
    rcases hb with rfl | rfl
    · have := hS.may _ (List.mem_of_getElem? (i := 1) rfl) b (by simp [blk])
      exact ⟨this.1.resolve_left id, this.2⟩
    · have := hS.may _ (List.mem_of_getElem? (i := 0) rfl) b (by simp [ownL, own, Value.ownBlock])
      exact ⟨this.1.resolve_left id, this.2⟩

theorem sameInts_ok {G : Int → Prop} {a b : Option Addr} {n m c d : Nat} {xs ys : List Int} (hx : Slc w 1 encI G a n xs) (hy : Slc w 1 encI G b m ys) :
    CallC Tryd.prog 34 #[.slice a n c, .slice b m d] w fun v w' => v = .bool (decide (xs = ys)) ∧ Ext No w w' := by
  have hm := hx.max
  have hl := hx.len
  have hl2 := hy.len
  refine fn_intro tabOk Tryd.func34 (by kernel_rfl) rfl Tryd.ntmps34 (Nat.le_of_ble_eq_true rfl) ?_
  have hS := St.start w No
  (conv => whnf)
  refine brND (fun h1 => ?_) (fun h1 => ?_)
  · repeat' ((conv => whnf); first | refine RetC.mk ?_ | refine NzC.mk (by decide) ?_ | refine RngC.mk (by omega) (by omega) ?_ | refine IdxC.mk (by omega) (by omega) ?_ | refine brD (fun _ => ?_) (fun _ => ?_) | refine brND (fun _ => ?_) (fun _ => ?_) | refine brN (fun _ => ?_) (fun _ => ?_) | refine brI (fun _ => ?_) (fun _ => ?_))
    refine ⟨?_, hS.ext⟩
    have : xs ≠ ys := fun e => h1 (by rw [← hl, ← hl2, e])
    simp [this]
  have hnm : n = m := by omega
  subst hnm
  (conv => whnf)
  refine loopR tabOk (fun σ w' q => ∃ k : Nat, σ = [(5, .int .i64 k), (1, .slice b n d), (0, .slice a n c)] ∧ q = n - k ∧ k ≤ n ∧ St w No w' [] ∧ xs.take k = ys.take k)
    (σ' := [(5, .int .i64 ((0 : Nat) : Int)), (1, .slice b n d), (0, .slice a n c)]) (n := n) ⟨rfl, rfl, rfl, trivial⟩ ⟨0, rfl, rfl, Nat.zero_le _, hS, rfl⟩ ?_
  clear hS
  rintro _ w1 q ⟨k, rfl, rfl, hk, hS, hi⟩
  (conv => whnf)
  refine brD (fun h3 => ?_) (fun h3 => ?_)
  · obtain ⟨b0, o0, x, hxk, _, rfl, _, hc⟩ := hx.at (k := k) (by omega)
    obtain ⟨b1, o1, y, hyk, _, rfl, _, hd⟩ := hy.at (k := k) (by omega)
    repeat' ((conv => whnf); first | refine RetC.mk ?_ | refine NzC.mk (by decide) ?_ | refine RngC.mk (by omega) (by omega) ?_ | refine IdxC.mk (by omega) (by omega) ?_ | (refine drawS tabOk mixed [] No [0, 1, 2, 3, 4, 5, 6, 7, 8] (by kernel_rfl) ?_; rintro w1 rfl; replace hS := hS.drew) | refine hS.ldrF (hc.one 0 rfl) id id ?_ | refine hS.ldrF (hd.one 0 rfl) id id ?_ | refine brD (fun _ => ?_) (fun _ => ?_) | refine brND (fun _ => ?_) (fun _ => ?_) | refine brN (fun _ => ?_) (fun _ => ?_) | refine brI (fun _ => ?_) (fun _ => ?_))
    · rename_i h4
      refine ⟨?_, hS.ext⟩
      have : xs ≠ ys := fun e => h4 (by subst e; exact Option.some.inj (hxk.symm.trans hyk))
      simp [this]
    · rename_i h4
      refine LoopE.mk ⟨_, [(5, .int .i64 ((k + 1 : Nat) : Int)), (1, _), (0, _)], ?_, ⟨rfl, rfl, rfl, trivial⟩, ⟨k + 1, rfl, rfl, by omega, hS, take_succ_eq hxk hyk hi h4⟩⟩
      omega
  · repeat' ((conv => whnf); first | refine RetC.mk ?_ | refine NzC.mk (by decide) ?_ | refine RngC.mk (by omega) (by omega) ?_ | refine IdxC.mk (by omega) (by omega) ?_ | refine brD (fun _ => ?_) (fun _ => ?_) | refine brND (fun _ => ?_) (fun _ => ?_) | refine brN (fun _ => ?_) (fun _ => ?_) | refine brI (fun _ => ?_) (fun _ => ?_))
    have : k = n := by omega
    subst this
    rw [List.take_of_length_le (by omega), List.take_of_length_le (by omega)] at hi
    exact ⟨by simp [hi], hS.ext⟩
end
end Go.Proofs.YteakdmngllfodaaDoor
