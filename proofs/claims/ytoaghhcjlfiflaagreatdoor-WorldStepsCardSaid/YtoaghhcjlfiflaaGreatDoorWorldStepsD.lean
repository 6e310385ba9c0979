/-
  Texts of this claim, joined: RefTable, Teller, TellerB, RefTeller, TellL, RefTellN, MapT, Track, Role, Number.
-/
import Derived.Test.YtoaghhcjlfiflaaGreatDoorWorldStepsC
import Derived.Laws.Tables
import Derived.Laws.OwnMore
import Derived.Laws.StructEq
import Derived.Laws.Cover2

namespace Go.Proofs.YtoaghhcjlfiflaaGreatDoor
open Go Ev

def refT (bt g c : Nat) (T : MirS) : Ent := ⟨[bt, g], fun w => bt ≠ g ∧ Blk w bt 195 [.int .i64 T.life, .slice (some ⟨g, 0, none⟩) 32 c] ∧ (ownL 59 10 encCell (.slice (some ⟨g, 0, none⟩) 32 c) T.cells).holds w⟩
theorem refT_local {bt g c : Nat} {T : MirS} : (refT bt g c T).Local := fun w w' h ⟨h1, h2, h3⟩ =>
  ⟨h1, blk_local bt _ _ w w' (fun b hb => h b (by simp [blk] at hb; simp [refT, hb])) h2, ownL_local w w' (fun b hb => h b (by simp [ownL, own, Value.ownBlock] at hb; simp [refT, hb])) h3⟩

section
variable {w : World} {bt g c : Nat} {T : MirS}
theorem refT_first (h : (refT bt g c T).holds w) : w.cell? ⟨bt, 0, none⟩ = some (.int .i64 T.life) := h.2.1.cell 0
theorem refT_l (h : (refT bt g c T).holds w) : w.cell? ⟨bt, 1, none⟩ = some (.slice (some ⟨g, 0, none⟩) 32 c) := h.2.1.cell 1
theorem refT_slc (h : (refT bt g c T).holds w) : Slc w 10 encCell (fun _ => True) (some ⟨g, 0, none⟩) 32 T.cells := by
  obtain ⟨_, _, h3⟩ := h
  have hl : T.cells.length = 32 := by
    obtain ⟨_, ⟨h4, _⟩ | ⟨g', cap, cur, h4, _⟩⟩ := h3
    · cases h4
    · simp only [Value.slice.injEq] at h4
      exact h4.2.1.symm
  have := ownL_slc (G := fun _ => True) codCell h3 fun _ _ => trivial
  exact this
theorem refT_at (h : (refT bt g c T).holds w) {k : Nat} {x : CellS} (hx : T.cells[k]? = some x) : CellsAt w g (k * 10) (encCell x) := by
  obtain ⟨b, o, h1, _, h2⟩ := (refT_slc h).cells k x hx
  cases h1
  rw [Nat.zero_add] at h2
  exact h2
theorem refT_ext {w' : World} (h : (refT bt g c T).holds w) (hx : Ext No w w') : (refT bt g c T).holds w' :=
  refT_local w w' (fun b hb => hx.block b (by
    simp only [refT, List.mem_cons, List.not_mem_nil, or_false] at hb
    rcases hb with rfl | rfl
    · exact h.2.1.lt
    · exact own_lt h.2.2) id) h

theorem rfind_ok (pr ia ip fa fp : Int) (hT : (refT bt g c T).holds w) :
    CallC Tryz.prog 172 #[.pointer (some ⟨bt, 0, none⟩), .int .i64 pr, .agg #[.int .i64 ia, .int .i64 ip], .agg #[.int .i64 fa, .int .i64 fp]] w fun v w' => v = .int .i64 (T.find pr ia ip fa fp) ∧ Ext No w w' := by
  have hl := (refT_slc hT).len
  unfold MirS.find
  refine fn_intro tabOk Tryz.func172 (by kernel_rfl) rfl Tryz.ntmps172 (Nat.le_of_ble_eq_true rfl) ?_
  have hS := St.start w No
  (conv => whnf)
  refine hS.new (fun b6 w' _ hS => ?_)
  (conv => whnf)
  refine hS.new (fun b7 w' _ hS => ?_)
  (conv => whnf)
  refine loopR tabOk (fun σ w' q => ∃ k : Nat, σ = [(9, .int .i64 k), (7, .pointer (some ⟨b7, 0, none⟩)), (6, .pointer (some ⟨b6, 0, none⟩)), (1, .int .i64 pr), (0, .pointer (some ⟨bt, 0, none⟩))] ∧ q = 32 - k ∧ k ≤ 32 ∧ St w No w' [blk b6 34 [.int .i64 ia, .int .i64 ip], blk b7 34 [.int .i64 fa, .int .i64 fp]] ∧
      idxI (there (fitF pr ia ip fa fp)) T.cells 0 = idxI (there (fitF pr ia ip fa fp)) (T.cells.drop k) k)
    (σ' := [(9, .int .i64 ((0 : Nat) : Int)), (7, .pointer (some ⟨b7, 0, none⟩)), (6, .pointer (some ⟨b6, 0, none⟩)), (1, .int .i64 pr), (0, .pointer (some ⟨bt, 0, none⟩))]) (n := 32) ⟨rfl, rfl, rfl, rfl, rfl, trivial⟩ ⟨0, rfl, rfl, Nat.zero_le _, hS, by simp⟩ ?_
  clear hS
  rintro _ w1 q ⟨k, rfl, rfl, hk, hS, hi⟩
  (conv => whnf)
  refine hS.ldr (refT_l hT) id ?_
  (conv => whnf)
  refine brD (fun h3 => ?_) (fun h3 => ?_)
  · obtain ⟨x, hxk⟩ : ∃ x, T.cells[k]? = some x := ⟨_, List.getElem?_eq_getElem (by omega)⟩
    have hst := idxI_step (there (fitF pr ia ip fa fp)) hxk
    (conv => whnf)
    refine hS.ldr (refT_l hT) id ?_
    (conv => whnf)
    refine IdxC.mk (by omega) (by omega) ?_
    (conv => whnf)
    refine hS.lar (l := encFlow x.f) rfl (show CellsAt w g (0 + Int.toNat (k : Int) * 10 + 2) (encFlow x.f) by rw [Nat.zero_add]; exact (refT_at hT hxk).sub 2 (l' := encFlow x.f) rfl) id ?_
    (conv => whnf)
    refine hS.new (fun b10 w' _ hS => ?_)
    (conv => whnf)
    refine hS.st 2 rfl (Nat.le_of_ble_eq_true rfl) rfl (fun w' hS => ?_)
    replace hS : St w No w' [blk b6 34 [.int .i64 ia, .int .i64 ip], blk b7 34 [.int .i64 fa, .int .i64 fp], blk b10 57 (encFlow x.f)] := hS
    have next : there (fitF pr ia ip fa fp) x = false → idxI (there (fitF pr ia ip fa fp)) T.cells 0 = idxI (there (fitF pr ia ip fa fp)) (T.cells.drop (k + 1)) (k + 1) := fun h => by rw [hi, hst, h]
    repeat' ((conv => whnf); first | refine RetC.mk ?_ | refine NzC.mk (by decide) ?_ | refine RngC.mk (by omega) (by omega) ?_ | refine IdxC.mk (by omega) (by omega) ?_ | refine hS.ld 2 rfl rfl ?_ | refine hS.la 2 rfl (l := [.int .i64 x.f.ia, .int .i64 x.f.ip]) rfl rfl ?_ | refine hS.la 2 rfl (l := [.int .i64 x.f.fa, .int .i64 x.f.fp]) rfl rfl ?_ | refine hS.la 0 rfl (l := [.int .i64 ia, .int .i64 ip]) rfl rfl ?_ | refine hS.la 1 rfl (l := [.int .i64 fa, .int .i64 fp]) rfl rfl ?_ | refine eqEnd ?_ | refine brD (fun _ => ?_) (fun _ => ?_) | refine brND (fun _ => ?_) (fun _ => ?_) | refine brN (fun _ => ?_) (fun _ => ?_) | refine brI (fun _ => ?_) (fun _ => ?_))
    all_goals first
      | exact LoopE.mk ⟨_, [(9, .int .i64 ((k + 1 : Nat) : Int)), (7, _), (6, _), (1, _), (0, _)], by omega, ⟨rfl, rfl, rfl, rfl, rfl, trivial⟩, ⟨k + 1, rfl, rfl, by omega, hS.keep 2, next (by simp_all [there, fitF])⟩⟩
      | exact ⟨by rw [hi, hst, show there (fitF pr ia ip fa fp) x = true by simp_all [there, fitF]], hS.ext⟩
      | trace_state
  · obtain rfl : k = 32 := by omega
    repeat' ((conv => whnf); first | refine RetC.mk ?_ | refine NzC.mk (by decide) ?_ | refine RngC.mk (by omega) (by omega) ?_ | refine IdxC.mk (by omega) (by omega) ?_ | refine brD (fun _ => ?_) (fun _ => ?_) | refine brND (fun _ => ?_) (fun _ => ?_) | refine brN (fun _ => ?_) (fun _ => ?_) | refine brI (fun _ => ?_) (fun _ => ?_))
    rw [hi, List.drop_of_length_le (by omega)]
    exact ⟨rfl, hS.ext⟩

theorem rback_ok (pr po fa fp : Int) (hT : (refT bt g c T).holds w) :
    CallC Tryz.prog 177 #[.pointer (some ⟨bt, 0, none⟩), .int .i64 pr, .int .i64 po, .agg #[.int .i64 fa, .int .i64 fp]] w fun v w' => v = .int .i64 (T.back pr po fa fp) ∧ Ext No w w' := by
  have hl := (refT_slc hT).len
  unfold MirS.back
  refine fn_intro tabOk Tryz.func177 (by kernel_rfl) rfl Tryz.ntmps177 (Nat.le_of_ble_eq_true rfl) ?_
  have hS := St.start w No
  (conv => whnf)
  refine hS.new (fun b7 w' _ hS => ?_)
  (conv => whnf)
  refine loopR tabOk (fun σ w' q => ∃ k : Nat, σ = [(9, .int .i64 k), (7, .pointer (some ⟨b7, 0, none⟩)), (2, .int .i64 po), (1, .int .i64 pr), (0, .pointer (some ⟨bt, 0, none⟩))] ∧ q = 32 - k ∧ k ≤ 32 ∧ St w No w' [blk b7 34 [.int .i64 fa, .int .i64 fp]] ∧
      idxI (there (fitB pr po fa fp)) T.cells 0 = idxI (there (fitB pr po fa fp)) (T.cells.drop k) k)
    (σ' := [(9, .int .i64 ((0 : Nat) : Int)), (7, .pointer (some ⟨b7, 0, none⟩)), (2, .int .i64 po), (1, .int .i64 pr), (0, .pointer (some ⟨bt, 0, none⟩))]) (n := 32) ⟨rfl, rfl, rfl, rfl, rfl, trivial⟩ ⟨0, rfl, rfl, Nat.zero_le _, hS, by simp⟩ ?_
  clear hS
  rintro _ w1 q ⟨k, rfl, rfl, hk, hS, hi⟩
  (conv => whnf)
  refine hS.ldr (refT_l hT) id ?_
  (conv => whnf)
  refine brD (fun h3 => ?_) (fun h3 => ?_)
  · obtain ⟨x, hxk⟩ : ∃ x, T.cells[k]? = some x := ⟨_, List.getElem?_eq_getElem (by omega)⟩
    have hst := idxI_step (there (fitB pr po fa fp)) hxk
    (conv => whnf)
    refine hS.ldr (refT_l hT) id ?_
    (conv => whnf)
    refine IdxC.mk (by omega) (by omega) ?_
    (conv => whnf)
    refine hS.lar (l := encFlow x.f) rfl (show CellsAt w g (0 + Int.toNat (k : Int) * 10 + 2) (encFlow x.f) by rw [Nat.zero_add]; exact (refT_at hT hxk).sub 2 (l' := encFlow x.f) rfl) id ?_
    (conv => whnf)
    refine hS.new (fun b10 w' _ hS => ?_)
    (conv => whnf)
    refine hS.st 1 rfl (Nat.le_of_ble_eq_true rfl) rfl (fun w' hS => ?_)
    replace hS : St w No w' [blk b7 34 [.int .i64 fa, .int .i64 fp], blk b10 57 (encFlow x.f)] := hS
    have next : there (fitB pr po fa fp) x = false → idxI (there (fitB pr po fa fp)) T.cells 0 = idxI (there (fitB pr po fa fp)) (T.cells.drop (k + 1)) (k + 1) := fun h => by rw [hi, hst, h]
    repeat' ((conv => whnf); first | refine RetC.mk ?_ | refine NzC.mk (by decide) ?_ | refine RngC.mk (by omega) (by omega) ?_ | refine IdxC.mk (by omega) (by omega) ?_ | refine hS.ld 1 rfl rfl ?_ | refine hS.la 1 rfl (l := [.int .i64 x.f.fa, .int .i64 x.f.fp]) rfl rfl ?_ | refine hS.la 0 rfl (l := [.int .i64 fa, .int .i64 fp]) rfl rfl ?_ | refine eqEnd ?_ | refine brD (fun _ => ?_) (fun _ => ?_) | refine brND (fun _ => ?_) (fun _ => ?_) | refine brN (fun _ => ?_) (fun _ => ?_) | refine brI (fun _ => ?_) (fun _ => ?_))
    all_goals first
      | exact LoopE.mk ⟨_, [(9, .int .i64 ((k + 1 : Nat) : Int)), (7, _), (2, _), (1, _), (0, _)], by omega, ⟨rfl, rfl, rfl, rfl, rfl, trivial⟩, ⟨k + 1, rfl, rfl, by omega, hS.keep 1, next (by simp_all [there, fitB])⟩⟩
      | exact ⟨by rw [hi, hst, show there (fitB pr po fa fp) x = true by simp_all [there, fitB]], hS.ext⟩
      | trace_state
  · obtain rfl : k = 32 := by omega
    repeat' ((conv => whnf); first | refine RetC.mk ?_ | refine NzC.mk (by decide) ?_ | refine RngC.mk (by omega) (by omega) ?_ | refine IdxC.mk (by omega) (by omega) ?_ | refine brD (fun _ => ?_) (fun _ => ?_) | refine brND (fun _ => ?_) (fun _ => ?_) | refine brN (fun _ => ?_) (fun _ => ?_) | refine brI (fun _ => ?_) (fun _ => ?_))
    rw [hi, List.drop_of_length_le (by omega)]
    exact ⟨rfl, hS.ext⟩

theorem refT_lt (hT : (refT bt g c T).holds w) : bt < w.heap.size ∧ g < w.heap.size := ⟨hT.2.1.lt, own_lt hT.2.2⟩
theorem refT_put {w' : World} {L : List CellS} (hT : (refT bt g c T).holds w) (hx : Ext (· = g) w w') (hO : (ownL 59 10 encCell (.slice (some ⟨g, 0, none⟩) 32 c) L).holds w') : (refT bt g c ⟨T.life, L⟩).holds w' :=
  ⟨hT.1, hx.blk hT.2.1 hT.1, hO⟩

theorem change_ok (k : Nat) (f : FlowS) {x : CellS} (hT : (refT bt g c T).holds w) (hx : T.cells[k]? = some x) (hs : x.slot = k) (hv : 0 ≤ x.ver ∧ x.ver < 9223372036854775807) :
    CallC Tryz.prog 215 #[.pointer (some ⟨bt, 0, none⟩), .int .i64 k, .agg (encFlow f).toArray] w fun v w' => Ext (· = g) w w' ∧ (refT bt g c ⟨T.life, setF T.cells k f⟩).holds w' := by
  have hl := (refT_slc hT).len
  have hlt := (List.getElem?_eq_some_iff.1 hx).1
  obtain ⟨l1, l2⟩ := refT_lt hT
  have hne := hT.1
  refine fn_intro tabOk Tryz.func215 (by kernel_rfl) rfl Tryz.ntmps215 (Nat.le_of_ble_eq_true rfl) ?_
  have hS := (St.start w (· = g)).add ownL_local hT.2.2 (by simp [ownL, own, Value.ownBlock]; exact l2) (by simp)
  (conv => whnf)
  refine hS.new (fun b5 w' hb5 hS => ?_)
  have h5 : ¬ b5 = g := by omega
  have hcx : CellsAt w' g (0 + Int.toNat (k : Int) * 10) (encCell x) := by
    obtain ⟨b, o, h1, _, h2⟩ := (ownL_slc (G := fun _ => True) codCell (hS.get 0 rfl) fun _ _ => trivial).cells k x hx
    cases h1
    exact h2
  (conv => whnf)
  (refine drawS tabOk mixed [13] (· = g) [0, 1, 2, 3, 4, 5, 6, 7, 8, 9, 10, 11, 12, 15, 13, 14, 16, 17, 18] (by kernel_rfl) ?_; rintro w1 rfl; replace hS := hS.drew)
  repeat' ((conv => whnf); first | refine IdxC.mk (by omega) (by omega) ?_ | refine hS.ldrF (refT_l hT) hne hne ?_ | refine hS.laF 1 rfl (l := encFlow f) rfl rfl h5 ?_ | (refine ldc (hcx.one 1 rfl) ?_; refine KeepC.mk (Ext.refl _ _) ?_) | refine RngC.mk (by omega) (by omega) ?_)
  refine hS.putCell (k := k) (x := ⟨(k : Int), x.ver + 1, f⟩) 0 rfl hx (by simp) (fun w' hx' hS => ?_)
  refine KeepC.mk hx' ?_
  repeat' ((conv => whnf); first | refine RetC.mk ?_ | refine NzC.mk (by decide) ?_ | refine RngC.mk (by omega) (by omega) ?_ | refine IdxC.mk (by omega) (by omega) ?_ | refine brD (fun _ => ?_) (fun _ => ?_) | refine brND (fun _ => ?_) (fun _ => ?_) | refine brN (fun _ => ?_) (fun _ => ?_) | refine brI (fun _ => ?_) (fun _ => ?_))
  refine ⟨hS.ext, refT_put hT hS.ext ?_⟩
  rw [setF_at hx, hs]
  exact hS.get 0 rfl

theorem rlay_ok (f : FlowS) (hT : (refT bt g c T).holds w) {n : Nat} (hO : TOk n T) (hn : n ≤ 50000000) :
    CallC Tryz.prog 206 #[.pointer (some ⟨bt, 0, none⟩), .agg (encFlow f).toArray] w fun v w' => v = .tuple #[.int .i64 (atI (T.lay f).1.1), .int .i64 (T.lay f).1.2] ∧ Ext (· = g) w w' ∧ (refT bt g c (T.lay f).2).holds w' := by
  have hl := hO.len
  unfold MirS.lay
  refine fn_intro tabOk Tryz.func206 (by kernel_rfl) rfl Tryz.ntmps206 (Nat.le_of_ble_eq_true rfl) ?_
  have hS := St.start w No
  (conv => whnf)
  refine hS.new (fun b3 w' hb3 hS => ?_)
  (conv => whnf)
  refine loopR tabOk (fun σ w' q => ∃ k : Nat, σ = [(6, .int .i64 k), (3, .pointer (some ⟨b3, 0, none⟩)), (0, .pointer (some ⟨bt, 0, none⟩))] ∧ q = 32 - k ∧ k ≤ 32 ∧ St w No w' [blk b3 57 (encFlow f)] ∧
      idxI proto0 T.cells 0 = idxI proto0 (T.cells.drop k) k)
    (σ' := [(6, .int .i64 ((0 : Nat) : Int)), (3, .pointer (some ⟨b3, 0, none⟩)), (0, .pointer (some ⟨bt, 0, none⟩))]) (n := 32) ⟨rfl, rfl, rfl, trivial⟩ ⟨0, rfl, rfl, Nat.zero_le _, hS, by simp⟩ ?_
  clear hS
  rintro _ w1 q ⟨k, rfl, rfl, hk, hS, hi⟩
  (conv => whnf)
  refine hS.ldr (refT_l hT) id ?_
  (conv => whnf)
  refine brD (fun h3 => ?_) (fun h3 => ?_)
  · obtain ⟨x, hxk⟩ : ∃ x, T.cells[k]? = some x := ⟨_, List.getElem?_eq_getElem (by omega)⟩
    have hst := idxI_step proto0 hxk
    have hcx := refT_at hT hxk
    have hp := hcx.one 2 rfl
    (conv => whnf)
    refine hS.ldr (refT_l hT) id ?_
    (conv => whnf)
    refine IdxC.mk (by omega) (by omega) ?_
    (conv => whnf)
    refine hS.ldr (show w.cell? ⟨g, 0 + Int.toNat (k : Int) * 10 + 2 + 0, none⟩ = _ by rw [Nat.zero_add]; exact hp) id ?_
    (conv => whnf)
    refine brD (fun h4 => ?_) (fun h4 => ?_)
    · have hidx : idxI proto0 T.cells 0 = k := by rw [hi, hst, show proto0 x = true by simp [proto0, h4]]
      have hxv := hO.ver x (List.mem_of_getElem? hxk)
      (conv => whnf)
      refine hS.la 0 rfl (l := encFlow f) rfl rfl ?_
      (conv => whnf)
      refine (change_ok k f (refT_ext hT hS.ext) hxk (hO.slot k x hxk) (by omega)).mono ?_
      rintro v w' ⟨hx, hT'⟩
      repeat' ((conv => whnf); first | refine RetC.mk ?_ | refine NzC.mk (by decide) ?_ | refine RngC.mk (by omega) (by omega) ?_ | refine IdxC.mk (by omega) (by omega) ?_ | refine brD (fun _ => ?_) (fun _ => ?_) | refine brND (fun _ => ?_) (fun _ => ?_) | refine brN (fun _ => ?_) (fun _ => ?_) | refine brI (fun _ => ?_) (fun _ => ?_))
      rw [hidx, if_neg (by omega)]
      exact ⟨by simp [atI]; omega, (hS.ext.of_no).trans hx, by simpa using hT'⟩
    · (conv => whnf)
      refine RngC.mk (by omega) (by omega) ?_
      (conv => whnf)
      exact LoopE.mk ⟨_, [(6, .int .i64 ((k + 1 : Nat) : Int)), (3, _), (0, _)], by omega, ⟨rfl, rfl, rfl, trivial⟩, ⟨k + 1, rfl, rfl, by omega, hS, by rw [hi, hst, show proto0 x = false by simp [proto0, h4]]⟩⟩
  · obtain rfl : k = 32 := by omega
    repeat' ((conv => whnf); first | refine RetC.mk ?_ | refine NzC.mk (by decide) ?_ | refine RngC.mk (by omega) (by omega) ?_ | refine IdxC.mk (by omega) (by omega) ?_ | refine brD (fun _ => ?_) (fun _ => ?_) | refine brND (fun _ => ?_) (fun _ => ?_) | refine brN (fun _ => ?_) (fun _ => ?_) | refine brI (fun _ => ?_) (fun _ => ?_))
    have hidx : idxI proto0 T.cells 0 = -1 := by rw [hi, List.drop_of_length_le (by omega)]; rfl
    rw [hidx, if_pos (by omega)]
    exact ⟨rfl, hS.ext.of_no, refT_ext hT hS.ext⟩

theorem lay_at (T : MirS) (f : FlowS) : atI (T.lay f).1.1 = (T.lay f).1.1 := by
  unfold MirS.lay
  split
  · rfl
  · unfold atI
    rw [if_neg (by assumption)]
theorem radd_ok (pr ia ip fa fp st un : Int) (hT : (refT bt g c T).holds w) {n : Nat} (hO : TOk n T) (hn : n ≤ 50000000) (hF : 0 ≤ T.life ∧ T.life ≤ 100000) :
    CallC Tryz.prog 176 #[.pointer (some ⟨bt, 0, none⟩), .int .i64 pr, .agg #[.int .i64 ia, .int .i64 ip], .agg #[.int .i64 fa, .int .i64 fp], .int .i64 st, .int .i64 un] w fun v w' => v = .tuple #[.int .i64 (T.add pr ia ip fa fp st un).1.1, .int .i64 (T.add pr ia ip fa fp st un).1.2] ∧ Ext (· = g) w w' ∧ (refT bt g c (T.add pr ia ip fa fp st un).2).holds w' := by
  unfold MirS.add
  refine fn_intro tabOk Tryz.func176 (by kernel_rfl) rfl Tryz.ntmps176 (Nat.le_of_ble_eq_true rfl) ?_
  have hS := St.start w No
  (conv => whnf)
  refine hS.new (fun b8 w' hb8 hS => ?_)
  (conv => whnf)
  refine hS.new (fun b9 w' hb9 hS => ?_)
  (conv => whnf)
  refine hS.la 0 rfl (l := [.int .i64 ia, .int .i64 ip]) rfl rfl ?_
  (conv => whnf)
  refine hS.la 1 rfl (l := [.int .i64 fa, .int .i64 fp]) rfl rfl ?_
  (conv => whnf)
  refine (rfind_ok pr ia ip fa fp (refT_ext hT hS.ext)).mono ?_
  rintro v w2 ⟨rfl, hx⟩
  replace hS := hS.no hx
  clear hx
  generalize T.find pr ia ip fa fp = k
  (conv => whnf)
  refine brD (fun h1 => ?_) (fun h1 => ?_)
  · rw [if_pos h1]
    repeat' ((conv => whnf); first | refine RetC.mk ?_ | refine NzC.mk (by decide) ?_ | refine RngC.mk (by omega) (by omega) ?_ | refine IdxC.mk (by omega) (by omega) ?_ | refine brD (fun _ => ?_) (fun _ => ?_) | refine brND (fun _ => ?_) (fun _ => ?_) | refine brN (fun _ => ?_) (fun _ => ?_) | refine brI (fun _ => ?_) (fun _ => ?_))
    exact ⟨rfl, hS.ext.of_no, refT_ext hT hS.ext⟩
  rw [if_neg h1]
  generalize hPP : portF T pr fa fp 24 0 = PP
  (conv => whnf)
  refine loopR tabOk (fun σ w' q => ∃ i : Nat, σ = [(14, .int .i64 i), (9, .pointer (some ⟨b9, 0, none⟩)), (8, .pointer (some ⟨b8, 0, none⟩)), (5, .int .i64 un), (4, .int .i64 st), (1, .int .i64 pr), (0, .pointer (some ⟨bt, 0, none⟩))] ∧ q = 24 - i ∧ i ≤ 24 ∧
      St w No w' [blk b8 34 [.int .i64 ia, .int .i64 ip], blk b9 34 [.int .i64 fa, .int .i64 fp]] ∧ PP = portF T pr fa fp (24 - i) i)
    (σ' := [(14, .int .i64 ((0 : Nat) : Int)), (9, .pointer (some ⟨b9, 0, none⟩)), (8, .pointer (some ⟨b8, 0, none⟩)), (5, .int .i64 un), (4, .int .i64 st), (1, .int .i64 pr), (0, .pointer (some ⟨bt, 0, none⟩))]) (n := 24) ⟨rfl, rfl, rfl, rfl, rfl, rfl, rfl, trivial⟩ ⟨0, rfl, rfl, Nat.zero_le _, hS, hPP.symm⟩ ?_
  clear hS hPP
  rintro _ w1 q ⟨i, rfl, rfl, hi, hS, hp⟩
  (conv => whnf)
  refine brD (fun h3 => ?_) (fun h3 => ?_)
  · have hi2 : 24 - i = (24 - (i + 1)) + 1 := by omega
    rw [hi2] at hp
    unfold portF at hp
    (conv => whnf)
    (refine drawS tabOk mixed [] No [0, 1, 2, 3, 4, 5, 6, 7, 8, 9, 10] (by kernel_rfl) ?_; rintro w1 rfl; replace hS := hS.drew)
    repeat' ((conv => whnf); first | refine RetC.mk ?_ | refine NzC.mk (by decide) ?_ | refine RngC.mk (by omega) (by omega) ?_ | refine IdxC.mk (by omega) (by omega) ?_ | refine hS.ldrF (refT_first hT) id id ?_ | refine hS.laF 1 rfl (l := [.int .i64 fa, .int .i64 fp]) rfl rfl id ?_ | refine brD (fun _ => ?_) (fun _ => ?_) | refine brND (fun _ => ?_) (fun _ => ?_) | refine brN (fun _ => ?_) (fun _ => ?_) | refine brI (fun _ => ?_) (fun _ => ?_))
    refine (rback_ok pr (T.life + i) fa fp (refT_ext hT hS.ext)).mono ?_
    rintro v w2 ⟨rfl, hx⟩
    replace hS := hS.no hx
    refine KeepC.mk hx ?_
    clear hx
    generalize T.back pr (T.life + i) fa fp = j at hp
    (conv => whnf)
    refine brD (fun h4 => ?_) (fun h4 => ?_)
    · rw [if_pos h4] at hp
      subst hp
      have hne := hT.1
      have hlt := refT_lt hT
      (conv => whnf)
      (refine drawS tabOk mixed [] (fun b => b = g) [0, 1, 2, 3, 4, 5, 6, 7, 8, 9, 10, 11, 12, 13, 14, 15, 16, 17] (by kernel_rfl) ?_; rintro w1 rfl; replace hS := hS.drew)
      repeat' ((conv => whnf); first | refine RetC.mk ?_ | refine NzC.mk (by decide) ?_ | refine RngC.mk (by omega) (by omega) ?_ | refine IdxC.mk (by omega) (by omega) ?_ | refine hS.ldrF (refT_first hT) id hne ?_ | refine hS.laF 0 rfl (l := [.int .i64 ia, .int .i64 ip]) rfl rfl (show ¬ b8 = g by omega) ?_ | refine hS.laF 1 rfl (l := [.int .i64 fa, .int .i64 fp]) rfl rfl (show ¬ b9 = g by omega) ?_ | refine brD (fun _ => ?_) (fun _ => ?_) | refine brND (fun _ => ?_) (fun _ => ?_) | refine brN (fun _ => ?_) (fun _ => ?_) | refine brI (fun _ => ?_) (fun _ => ?_))
      refine (rlay_ok ⟨pr, ia, ip, fa, fp, T.life + i, st, un⟩ (refT_ext hT hS.ext) hO hn).mono ?_
      rintro v w' ⟨rfl, hx, hT'⟩
      refine KeepC.mk hx ?_
      repeat' ((conv => whnf); first | refine RetC.mk ?_ | refine NzC.mk (by decide) ?_ | refine RngC.mk (by omega) (by omega) ?_ | refine IdxC.mk (by omega) (by omega) ?_ | refine brD (fun _ => ?_) (fun _ => ?_) | refine brND (fun _ => ?_) (fun _ => ?_) | refine brN (fun _ => ?_) (fun _ => ?_) | refine brI (fun _ => ?_) (fun _ => ?_))
      rw [lay_at]
      exact ⟨rfl, hS.ext.of_no.trans hx, hT'⟩
    · rw [if_neg h4] at hp
      (conv => whnf)
      refine RngC.mk (by omega) (by omega) ?_
      (conv => whnf)
      exact LoopE.mk ⟨_, [(14, .int .i64 ((i + 1 : Nat) : Int)), (9, _), (8, _), (5, _), (4, _), (1, _), (0, _)], by omega, ⟨rfl, rfl, rfl, rfl, rfl, rfl, rfl, trivial⟩, ⟨i + 1, rfl, rfl, by omega, hS, hp⟩⟩
  · obtain rfl : i = 24 := by omega
    rw [show PP = none from hp]
    repeat' ((conv => whnf); first | refine RetC.mk ?_ | refine NzC.mk (by decide) ?_ | refine RngC.mk (by omega) (by omega) ?_ | refine IdxC.mk (by omega) (by omega) ?_ | refine brD (fun _ => ?_) (fun _ => ?_) | refine brND (fun _ => ?_) (fun _ => ?_) | refine brN (fun _ => ?_) (fun _ => ?_) | refine brI (fun _ => ?_) (fun _ => ?_))
    exact ⟨rfl, hS.ext.of_no, refT_ext hT hS.ext⟩

theorem rput_ok (f : FlowS) (hT : (refT bt g c T).holds w) {n : Nat} (hO : TOk n T) (hn : n ≤ 50000000) :
    CallC Tryz.prog 169 #[.pointer (some ⟨bt, 0, none⟩), .agg (encFlow f).toArray] w fun v w' => v = .tuple #[.int .i64 (T.put f).1.1, .int .i64 (T.put f).1.2] ∧ Ext (· = g) w w' ∧ (refT bt g c (T.put f).2).holds w' := by
  unfold MirS.put
  refine fn_intro tabOk Tryz.func169 (by kernel_rfl) rfl Tryz.ntmps169 (Nat.le_of_ble_eq_true rfl) ?_
  have hS := St.start w No
  (conv => whnf)
  refine hS.new (fun bf w' hbf hS => ?_)
  repeat' ((conv => whnf); first | refine RetC.mk ?_ | refine NzC.mk (by decide) ?_ | refine RngC.mk (by omega) (by omega) ?_ | refine IdxC.mk (by omega) (by omega) ?_ | refine hS.ld 0 rfl rfl ?_ | refine hS.la 0 rfl (l := [.int .i64 f.ia, .int .i64 f.ip]) rfl rfl ?_ | refine hS.la 0 rfl (l := [.int .i64 f.fa, .int .i64 f.fp]) rfl rfl ?_ | refine brD (fun _ => ?_) (fun _ => ?_) | refine brND (fun _ => ?_) (fun _ => ?_) | refine brN (fun _ => ?_) (fun _ => ?_) | refine brI (fun _ => ?_) (fun _ => ?_))
  refine (rfind_ok f.proto f.ia f.ip f.fa f.fp (refT_ext hT hS.ext)).mono ?_
  rintro v w2 ⟨rfl, hx⟩
  replace hS := hS.no hx
  clear hx
  generalize T.find f.proto f.ia f.ip f.fa f.fp = k
  have lay : ∀ (w3 : World) (K : Value → World → Prop), Ext No w w3 → (∀ w', Ext (· = g) w w' → (refT bt g c (T.lay f).2).holds w' → K (.tuple #[.int .i64 (T.lay f).1.1, .int .i64 (T.lay f).1.2]) w') → CallC Tryz.prog 206 #[.pointer (some ⟨bt, 0, none⟩), .agg (encFlow f).toArray] w3 K := by
    intro w3 K hx hK
    refine (rlay_ok f (refT_ext hT hx) hO hn).mono ?_
    rintro v w' ⟨rfl, hx', hT'⟩
    rw [lay_at]
    exact hK w' (hx.of_no.trans hx') hT'
  (conv => whnf)
  refine brD (fun h1 => ?_) (fun h1 => ?_)
  · rw [if_pos (.inl h1)]
    repeat' ((conv => whnf); first | refine RetC.mk ?_ | refine NzC.mk (by decide) ?_ | refine RngC.mk (by omega) (by omega) ?_ | refine IdxC.mk (by omega) (by omega) ?_ | refine brD (fun _ => ?_) (fun _ => ?_) | refine brND (fun _ => ?_) (fun _ => ?_) | refine brN (fun _ => ?_) (fun _ => ?_) | refine brI (fun _ => ?_) (fun _ => ?_))
    exact ⟨rfl, hS.ext.of_no, refT_ext hT hS.ext⟩
  repeat' ((conv => whnf); first | refine RetC.mk ?_ | refine NzC.mk (by decide) ?_ | refine RngC.mk (by omega) (by omega) ?_ | refine IdxC.mk (by omega) (by omega) ?_ | refine hS.ld 0 rfl rfl ?_ | refine hS.la 0 rfl (l := [.int .i64 f.fa, .int .i64 f.fp]) rfl rfl ?_ | refine brD (fun _ => ?_) (fun _ => ?_) | refine brND (fun _ => ?_) (fun _ => ?_) | refine brN (fun _ => ?_) (fun _ => ?_) | refine brI (fun _ => ?_) (fun _ => ?_))
  refine (rback_ok f.proto f.port f.fa f.fp (refT_ext hT hS.ext)).mono ?_
  rintro v w2 ⟨rfl, hx⟩
  replace hS := hS.no hx
  clear hx
  generalize T.back f.proto f.port f.fa f.fp = j
  (conv => whnf)
  refine brD (fun h2 => ?_) (fun h2 => ?_)
  · rw [if_pos (.inr h2)]
    repeat' ((conv => whnf); first | refine RetC.mk ?_ | refine NzC.mk (by decide) ?_ | refine RngC.mk (by omega) (by omega) ?_ | refine IdxC.mk (by omega) (by omega) ?_ | refine brD (fun _ => ?_) (fun _ => ?_) | refine brND (fun _ => ?_) (fun _ => ?_) | refine brN (fun _ => ?_) (fun _ => ?_) | refine brI (fun _ => ?_) (fun _ => ?_))
    exact ⟨rfl, hS.ext.of_no, refT_ext hT hS.ext⟩
  rw [if_neg (by rintro (h | h); exact h1 h; exact h2 h)]
  (conv => whnf)
  refine hS.la 0 rfl (l := encFlow f) rfl rfl ?_
  (conv => whnf)
  refine lay _ _ hS.ext fun w' hx hT' => ?_
  repeat' ((conv => whnf); first | refine RetC.mk ?_ | refine NzC.mk (by decide) ?_ | refine RngC.mk (by omega) (by omega) ?_ | refine IdxC.mk (by omega) (by omega) ?_ | refine brD (fun _ => ?_) (fun _ => ?_) | refine brND (fun _ => ?_) (fun _ => ?_) | refine brN (fun _ => ?_) (fun _ => ?_) | refine brI (fun _ => ?_) (fun _ => ?_))
  exact ⟨rfl, hx, hT'⟩

theorem flowError_ok (k : Int) (hT : (refT bt g c T).holds w) : CallC Tryz.prog 214 #[.pointer (some ⟨bt, 0, none⟩), .int .i64 k] w fun v w' => v = .int .i64 (T.flowErr k) ∧ w = w' := by
  have hl := (refT_slc hT).len
  unfold MirS.flowErr
  refine fn_intro tabOk Tryz.func214 (by kernel_rfl) rfl Tryz.ntmps214 (Nat.le_of_ble_eq_true rfl) ?_
  by_cases h : k < 0 ∨ 32 ≤ k
  · rw [if_pos h]
    repeat' ((conv => whnf); first | refine RetC.mk ?_ | refine NzC.mk (by decide) ?_ | refine RngC.mk (by omega) (by omega) ?_ | refine IdxC.mk (by omega) (by omega) ?_ | refine ldc (refT_l hT) ?_ | refine brD (fun _ => ?_) (fun _ => ?_) | refine brND (fun _ => ?_) (fun _ => ?_) | refine brN (fun _ => ?_) (fun _ => ?_) | refine brI (fun _ => ?_) (fun _ => ?_))
    all_goals first | exact ⟨rfl, rfl⟩ | (exfalso; omega)
  · rw [if_neg h]
    obtain ⟨x, hx⟩ : ∃ x, T.cells[k.toNat]? = some x := ⟨_, List.getElem?_eq_getElem (by omega)⟩
    have hp := (refT_at hT hx).one 2 rfl
    rw [hx]
    repeat' ((conv => whnf); first | refine RetC.mk ?_ | refine NzC.mk (by decide) ?_ | refine RngC.mk (by omega) (by omega) ?_ | refine IdxC.mk (by omega) (by omega) ?_ | refine ldc (refT_l hT) ?_ | refine ldc (show w.cell? ⟨g, 0 + k.toNat * 10 + 2 + 0, none⟩ = _ by rw [Nat.zero_add]; exact hp) ?_ | refine brD (fun _ => ?_) (fun _ => ?_) | refine brND (fun _ => ?_) (fun _ => ?_) | refine brN (fun _ => ?_) (fun _ => ?_) | refine brI (fun _ => ?_) (fun _ => ?_))
    all_goals first | (exfalso; omega) | skip
    all_goals refine ⟨?_, rfl⟩
    all_goals simp_all

theorem rset_ok (k st un : Int) (hT : (refT bt g c T).holds w) {n : Nat} (hO : TOk n T) (hn : n ≤ 50000000) :
    CallC Tryz.prog 209 #[.pointer (some ⟨bt, 0, none⟩), .int .i64 k, .int .i64 st, .int .i64 un] w fun v w' => v = .int .i64 (T.setS k st un).1 ∧ Ext (· = g) w w' ∧ (refT bt g c (T.setS k st un).2).holds w' := by
  have hl := hO.len
  have hin : T.flowErr k = 0 → 0 ≤ k ∧ k < 32 := by
    unfold MirS.flowErr
    split
    · intro h; cases h
    · intro _; omega
  unfold MirS.setS
  refine fn_intro tabOk Tryz.func209 (by kernel_rfl) rfl Tryz.ntmps209 (Nat.le_of_ble_eq_true rfl) ?_
  have hS := St.start w No
  (conv => whnf)
  refine (flowError_ok k hT).mono ?_
  rintro v w2 ⟨rfl, rfl⟩
  by_cases h : T.flowErr k = 0
  · obtain ⟨h0, h1⟩ := hin h
    rw [if_neg (by simpa using h), h]
    obtain ⟨x, hx⟩ : ∃ x, T.cells[k.toNat]? = some x := ⟨_, List.getElem?_eq_getElem (by omega)⟩
    have hxv := hO.ver x (List.mem_of_getElem? hx)
    have hfa : flowAt T k = x.f := by unfold flowAt; rw [hx]
    rw [hfa]
    (conv => whnf)
    refine hS.ldr (refT_l hT) id ?_
    (conv => whnf)
    refine IdxC.mk (by omega) (by omega) ?_
    (conv => whnf)
    refine hS.lar (l := encFlow x.f) rfl (show CellsAt w g (0 + k.toNat * 10 + 2) (encFlow x.f) by rw [Nat.zero_add]; exact (refT_at hT hx).sub 2 (l' := encFlow x.f) rfl) id ?_
    (conv => whnf)
    refine hS.new (fun b10 w' _ hS => ?_)
    (conv => whnf)
    refine hS.st 0 rfl (Nat.le_of_ble_eq_true rfl) rfl (fun w' hS => ?_)
    (conv => whnf)
    refine hS.st 0 rfl (Nat.le_of_ble_eq_true rfl) rfl (fun w' hS => ?_)
    (conv => whnf)
    refine hS.st 0 rfl (Nat.le_of_ble_eq_true rfl) rfl (fun w' hS => ?_)
    replace hS : St w No w' [blk b10 57 (encFlow { x.f with state := st, til := un })] := hS
    (conv => whnf)
    refine hS.la 0 rfl (l := encFlow { x.f with state := st, til := un }) rfl rfl ?_
    (conv => whnf)
    have hkk : k = (k.toNat : Int) := by omega
    have hc := change_ok k.toNat { x.f with state := st, til := un } (refT_ext hT hS.ext) hx (hO.slot _ x hx) (by omega)
    rw [← hkk] at hc
    refine hc.mono ?_
    rintro v w' ⟨hx', hT'⟩
    repeat' ((conv => whnf); first | refine RetC.mk ?_ | refine NzC.mk (by decide) ?_ | refine RngC.mk (by omega) (by omega) ?_ | refine IdxC.mk (by omega) (by omega) ?_ | refine brD (fun _ => ?_) (fun _ => ?_) | refine brND (fun _ => ?_) (fun _ => ?_) | refine brN (fun _ => ?_) (fun _ => ?_) | refine brI (fun _ => ?_) (fun _ => ?_))
    exact ⟨rfl, hS.ext.of_no.trans hx', hT'⟩
  · rw [if_pos h]
    (conv => whnf)
    refine brD (fun h2 => ?_) (fun _ => ?_)
    · exact absurd h2 (by omega)
    repeat' ((conv => whnf); first | refine RetC.mk ?_ | refine NzC.mk (by decide) ?_ | refine RngC.mk (by omega) (by omega) ?_ | refine IdxC.mk (by omega) (by omega) ?_ | refine brD (fun _ => ?_) (fun _ => ?_) | refine brND (fun _ => ?_) (fun _ => ?_) | refine brN (fun _ => ?_) (fun _ => ?_) | refine brI (fun _ => ?_) (fun _ => ?_))
    exact ⟨rfl, Ext.refl _ _, hT⟩

theorem rdrop_ok (k : Int) (hT : (refT bt g c T).holds w) {n : Nat} (hO : TOk n T) (hn : n ≤ 50000000) :
    CallC Tryz.prog 205 #[.pointer (some ⟨bt, 0, none⟩), .int .i64 k] w fun v w' => v = .int .i64 (T.drop k).1 ∧ Ext (· = g) w w' ∧ (refT bt g c (T.drop k).2).holds w' := by
  have hl := hO.len
  have hin : T.flowErr k = 0 → 0 ≤ k ∧ k < 32 := by
    unfold MirS.flowErr
    split
    · intro h; cases h
    · intro _; omega
  unfold MirS.drop
  refine fn_intro tabOk Tryz.func205 (by kernel_rfl) rfl Tryz.ntmps205 (Nat.le_of_ble_eq_true rfl) ?_
  (conv => whnf)
  refine (flowError_ok k hT).mono ?_
  rintro v w2 ⟨rfl, rfl⟩
  by_cases h : T.flowErr k = 0
  · obtain ⟨h0, h1⟩ := hin h
    rw [if_neg (by simpa using h), h]
    obtain ⟨x, hx⟩ : ∃ x, T.cells[k.toNat]? = some x := ⟨_, List.getElem?_eq_getElem (by omega)⟩
    have hxv := hO.ver x (List.mem_of_getElem? hx)
    (conv => whnf)
    have hkk : k = (k.toNat : Int) := by omega
    have hc := change_ok k.toNat noFlow hT hx (hO.slot _ x hx) (by omega)
    rw [← hkk] at hc
    refine hc.mono ?_
    rintro v w' ⟨hx', hT'⟩
    repeat' ((conv => whnf); first | refine RetC.mk ?_ | refine NzC.mk (by decide) ?_ | refine RngC.mk (by omega) (by omega) ?_ | refine IdxC.mk (by omega) (by omega) ?_ | refine brD (fun _ => ?_) (fun _ => ?_) | refine brND (fun _ => ?_) (fun _ => ?_) | refine brN (fun _ => ?_) (fun _ => ?_) | refine brI (fun _ => ?_) (fun _ => ?_))
    exact ⟨rfl, hx', hT'⟩
  · rw [if_pos h]
    (conv => whnf)
    refine brD (fun h2 => ?_) (fun _ => ?_)
    · exact absurd h2 (by omega)
    repeat' ((conv => whnf); first | refine RetC.mk ?_ | refine NzC.mk (by decide) ?_ | refine RngC.mk (by omega) (by omega) ?_ | refine IdxC.mk (by omega) (by omega) ?_ | refine brD (fun _ => ?_) (fun _ => ?_) | refine brND (fun _ => ?_) (fun _ => ?_) | refine brN (fun _ => ?_) (fun _ => ?_) | refine brI (fun _ => ?_) (fun _ => ?_))
    exact ⟨rfl, Ext.refl _ _, hT⟩

theorem rexpire_ok (now : Int) (hT : (refT bt g c T).holds w) {m : Nat} (hO : TOk m T) (hmm : m ≤ 40000000) :
    CallC Tryz.prog 163 #[.pointer (some ⟨bt, 0, none⟩), .int .i64 now] w fun v w' => (∃ a' c', v = .slice a' (expOut now 32 T.cells).length c') ∧ Ext (fun b => b = bt ∨ b = g) w w' ∧ (refT bt g c (T.expire now)).holds w' ∧ (ownL 3 1 encI v (expOut now 32 T.cells)).holds w' ∧ Fresh w w' v := by
  have hl := hO.len
  obtain ⟨l1, l2⟩ := refT_lt hT
  refine fn_intro tabOk Tryz.func163 (by kernel_rfl) rfl Tryz.ntmps163 (Nat.le_of_ble_eq_true rfl) ?_
  have hS := (St.start w (fun b => b = bt ∨ b = g)).add refT_local hT (by intro b hb; simp only [refT, List.mem_cons, List.not_mem_nil, or_false] at hb; rcases hb with rfl | rfl; exact ⟨.inl (.inl rfl), l1⟩; exact ⟨.inl (.inr rfl), l2⟩) (by simp)
  have hS := hS.add (ownL_local (e := 3) (enc := encI) (sz := 1) (v := .slice none 0 0) (xs := [])) (own_nil _ _ _) (by simp [ownL, own, Value.ownBlock]) (by simp [ownL, own, Value.ownBlock])
  (conv => whnf)
  refine loopR tabOk (fun σ w' q => ∃ (k : Nat) (v : Value), σ = [(6, .int .i64 k), (5, v), (1, .int .i64 now), (0, .pointer (some ⟨bt, 0, none⟩))] ∧ q = 32 - k ∧ k ≤ 32 ∧ (∃ a' c', v = .slice a' (expOut now k T.cells).length c') ∧ St w (fun b => b = bt ∨ b = g) w' [refT bt g c ⟨T.life, expCells now k T.cells⟩, ownL 3 1 encI v (expOut now k T.cells)])
    (σ' := [(6, .int .i64 ((0 : Nat) : Int)), (5, .slice none 0 0), (1, .int .i64 now), (0, .pointer (some ⟨bt, 0, none⟩))]) (n := 32) ⟨rfl, rfl, rfl, rfl, trivial⟩ ⟨0, _, rfl, rfl, Nat.zero_le _, ⟨none, 0, rfl⟩, hS⟩ ?_
  clear hS
  rintro _ w1 q ⟨k, _, rfl, rfl, hk, ⟨a', c', rfl⟩, hS⟩
  (conv => whnf)
  refine ldc (refT_l (hS.get 0 rfl)) ?_
  (conv => whnf)
  refine brD (fun h3 => ?_) (fun h3 => ?_)
  · obtain ⟨x, hxk⟩ : ∃ x, T.cells[k]? = some x := ⟨_, List.getElem?_eq_getElem (by omega)⟩
    have hol := expOut_len now k T.cells
    have hos := expOut_succ (now := now) hxk
    have hcs := expCells_succ (now := now) hxk
    have hca := expCells_at (now := now) hxk
    have hTk := hO.expire now k
    have hcx := refT_at (hS.get 0 rfl) hca
    have c2 : w1.cell? ⟨g, 0 + Int.toNat (k : Int) * 10 + 2 + 0, none⟩ = some (.int .i64 x.f.proto) := by rw [Nat.zero_add]; exact hcx.one 2 rfl
    have c9 : w1.cell? ⟨g, 0 + Int.toNat (k : Int) * 10 + 2 + 7, none⟩ = some (.int .i64 x.f.til) := by rw [Nat.zero_add]; exact hcx.one 9 rfl
    by_cases hx : expC now x = true
    · have h1 : x.f.proto ≠ 0 ∧ x.f.til ≤ now := by simpa [expC] using hx
      rw [if_pos hx] at hos
      have hdr : (MirS.mk T.life (expCells now k T.cells)).drop k = (0, ⟨T.life, expCells now (k + 1) T.cells⟩) := by
        have hfe : (MirS.mk T.life (expCells now k T.cells)).flowErr k = 0 := by
          unfold MirS.flowErr
          rw [if_neg (by omega)]
          simp only [show ((k : Int)).toNat = k by simp, hca]
          simp [h1.1]
        unfold MirS.drop
        rw [hfe, if_neg (by simp), show ((k : Int)).toNat = k by simp]
        simp only [setF_at hca]
        rw [hcs, dropC, if_pos hx]
      repeat' ((conv => whnf); first | refine IdxC.mk (by omega) (by omega) ?_ | refine ldc (refT_l (hS.get 0 rfl)) ?_ | refine ldc c2 ?_ | refine ldc c9 ?_ | refine brND (fun _ => ?_) (fun h => absurd h h1.1) | refine brD (fun _ => ?_) (fun h => absurd h1.2 h))
      refine (rdrop_ok (k : Int) (hS.get 0 rfl) hTk (by omega)).mono ?_
      rw [hdr]
      rintro v w' ⟨rfl, hx', hT'⟩
      replace hS := hS.upd 0 rfl hx' (fun d hd => by subst hd; simp [refT]) refT_local hT' (fun d hd => .inl hd)
      (conv => whnf)
      refine hS.lit (cs := [.int .i64 k]) Tryz.underlying62 (sz := 1) (by kernel_rfl) (z := .int .i64 0) (by kernel_rfl) rfl rfl (by rfl) (fun bl w' hbl hS => ?_)
      (conv => whnf)
      refine hS.appS codInt 1 (ys := [(k : Int)]) (G := fun _ => True) Tryz.underlying62 (bytes := 8) (by kernel_rfl) (z := .int .i64 0) (by kernel_rfl) rfl rfl (Slc.of_blk codInt (hS.blk 2 rfl) rfl (by simp) (fun _ _ => trivial) rfl) (by unfold maxLen; omega) (by omega) (fun a2 c2 w' hS => ?_)
      replace hS := hS.keep 2
      rw [← hos] at hS
      have hl2 : (expOut now k T.cells).length + 1 = (expOut now (k + 1) T.cells).length := by rw [hos]; simp
      rw [hl2] at hS ⊢
      (conv => whnf)
      refine RngC.mk (by omega) (by omega) ?_
      (conv => whnf)
      refine LoopE.mk ⟨_, [(6, .int .i64 ((k + 1 : Nat) : Int)), (5, _), (1, _), (0, _)], ?_, ⟨rfl, rfl, rfl, rfl, trivial⟩, ⟨k + 1, _, rfl, rfl, by omega, ⟨a2, c2, rfl⟩, hS⟩⟩
      omega
    · rw [if_neg hx, List.append_nil] at hos
      have hcs2 : expCells now (k + 1) T.cells = expCells now k T.cells := by
        rw [hcs, dropC, if_neg hx]
        obtain ⟨lt, e⟩ := List.getElem?_eq_some_iff.1 hca
        rw [← e]
        exact List.set_getElem_self lt
      have h1 : x.f.proto ≠ 0 → ¬ x.f.til ≤ now := by
        intro a b
        exact hx (by simp [expC, a, b])
      have hS2 : St w (fun b => b = bt ∨ b = g) w1 [refT bt g c ⟨T.life, expCells now (k + 1) T.cells⟩, ownL 3 1 encI (.slice a' (expOut now k T.cells).length c') (expOut now (k + 1) T.cells)] := by
        rw [hcs2, hos]
        exact hS
      repeat' ((conv => whnf); first | refine IdxC.mk (by omega) (by omega) ?_ | refine RngC.mk (by omega) (by omega) ?_ | refine ldc (refT_l (hS.get 0 rfl)) ?_ | refine ldc c2 ?_ | refine ldc c9 ?_ | refine brND (fun h4 => ?_) (fun _ => ?_) | refine brD (fun h => absurd h (h1 h4)) (fun _ => ?_))
      all_goals exact LoopE.mk ⟨_, [(6, .int .i64 ((k + 1 : Nat) : Int)), (5, _), (1, _), (0, _)], by omega, ⟨rfl, rfl, rfl, rfl, trivial⟩, ⟨k + 1, _, rfl, rfl, by omega, ⟨a', c', by rw [hos]⟩, hS2⟩⟩
  · obtain rfl : k = 32 := by omega
    repeat' ((conv => whnf); first | refine RetC.mk ?_ | refine NzC.mk (by decide) ?_ | refine RngC.mk (by omega) (by omega) ?_ | refine IdxC.mk (by omega) (by omega) ?_ | refine brD (fun _ => ?_) (fun _ => ?_) | refine brND (fun _ => ?_) (fun _ => ?_) | refine brN (fun _ => ?_) (fun _ => ?_) | refine brI (fun _ => ?_) (fun _ => ?_))
    refine ⟨⟨a', c', rfl⟩, hS.ext, hS.get 0 rfl, hS.get 1 rfl, fun q hq => ?_⟩
    obtain ⟨h1, h2⟩ := hS.may _ (List.mem_of_getElem? (i := 1) rfl) q (by simpa [ownL, own] using hq)
    refine ⟨h1.resolve_left ?_, h2⟩
    intro h
    have := pairwise_at apart_symm hS.apart (i := 0) (j := 1) rfl rfl (by decide) q (by simp only [refT, List.mem_cons, List.not_mem_nil, or_false]; exact h)
    exact this (by simpa [ownL, own] using hq)

theorem newTable_ok (nd : Int) (h : nd = 0 ∨ nd = 1) (w : World) :
    CallC Tryz.prog 110 #[.int .i64 nd] w fun v w' => ∃ bt g c, v = .pointer (some ⟨bt, 0, none⟩) ∧ Ext No w w' ∧ (refT bt g c ⟨2000 + nd * 24, emptyCells⟩).holds w' ∧ (∀ b ∈ (refT bt g c ⟨2000 + nd * 24, emptyCells⟩).foot, w.heap.size ≤ b ∧ b < w'.heap.size) := by
  refine fn_intro tabOk Tryz.func110 (by kernel_rfl) rfl Tryz.ntmps110 (Nat.le_of_ble_eq_true rfl) ?_
  have hS := St.start w No
  (conv => whnf)
  refine RngC.mk (by omega) (by omega) ?_
  (conv => whnf)
  refine RngC.mk (by omega) (by omega) ?_
  (conv => whnf)
  refine (empty_ok _).mono ?_
  rintro v w' ⟨g, c, rfl, hx, hO, hF⟩
  replace hS := hS.madeL hx hO hF
  (conv => whnf)
  refine hS.new (fun bt w' hbt hS => ?_)
  repeat' ((conv => whnf); first | refine RetC.mk ?_ | refine NzC.mk (by decide) ?_ | refine RngC.mk (by omega) (by omega) ?_ | refine IdxC.mk (by omega) (by omega) ?_ | refine brD (fun _ => ?_) (fun _ => ?_) | refine brND (fun _ => ?_) (fun _ => ?_) | refine brN (fun _ => ?_) (fun _ => ?_) | refine brI (fun _ => ?_) (fun _ => ?_))
  refine ⟨bt, g, c, rfl, hS.ext, ⟨?_, hS.get 1 rfl, hS.get 0 rfl⟩, ?_⟩
  · have := pairwise_at apart_symm hS.apart (i := 1) (j := 0) rfl rfl (by decide) bt (by simp [blk])
    simpa [ownL, own, Value.ownBlock] using this
  · intro b hb
    simp only [refT, List.mem_cons, List.not_mem_nil, or_false] at hb
    rcases hb with rfl | rfl
    · have := hS.may _ (List.mem_of_getElem? (i := 1) rfl) b (by simp [blk])
      exact ⟨this.1.resolve_left id, this.2⟩
    · have := hS.may _ (List.mem_of_getElem? (i := 0) rfl) b (by simp [ownL, own, Value.ownBlock])
      exact ⟨this.1.resolve_left id, this.2⟩

end
end Go.Proofs.YtoaghhcjlfiflaaGreatDoor

namespace Go.Proofs.YtoaghhcjlfiflaaGreatDoor
open Go Ev Go.Instr

def bEnt (k : Nat × Nat) : MapEntry := ⟨.int .i64 (k.1 : Int), .bool true, k.2⟩
def bFind (p : Nat) : List (Nat × Nat) → Nat → Option (Nat × Value)
  | [], _ => none
  | (a, _) :: r, n => if p = a then some (n, .bool true) else bFind p r (n + 1)
theorem bFind_no {p : Nat} : ∀ {l : List (Nat × Nat)} {n : Nat}, p ∉ l.map Prod.fst → bFind p l n = none
  | [], _, _ => rfl
  | (a, _) :: r, n, h => by
    simp only [List.map_cons, List.mem_cons, not_or] at h
    unfold bFind
    rw [if_neg h.1]
    exact bFind_no h.2
theorem bFind_yes {p : Nat} : ∀ {l : List (Nat × Nat)} {n : Nat}, p ∈ l.map Prod.fst → ∃ i, bFind p l n = some (i, .bool true)
  | [], _, h => by simp at h
  | (a, _) :: r, n, h => by
    unfold bFind
    by_cases hp : p = a
    · exact ⟨n, if_pos hp⟩
    · rw [if_neg hp]
      refine bFind_yes ?_
      simpa [hp] using h
theorem findNow_b (p : Nat) : ∀ (l : List (Nat × Nat)) (n : Nat), findNow (.int .i64) (.int .i64 (p : Int)) (l.map bEnt) n = some (bFind p l n)
  | [], _ => rfl
  | (a, c) :: r, n => by
    have ih := findNow_b p r (n + 1)
    rw [List.map_cons]
    unfold findNow bFind
    by_cases hp : p = a
    · subst hp
      simp [sameNow, bEnt]
    · have : ¬ (p : Int) = (a : Int) := by omega
      have h2 : sameNow (.int .i64) (.int .i64 (p : Int)) (bEnt (a, c)).key = some false := by
        simp [sameNow, bEnt, this]
      rw [h2, if_neg hp]
      exact ih
theorem findKey_b (p : Nat) (w : World) (l : List (Nat × Nat)) : (findKey 3 (.int .i64 (p : Int)) (l.map bEnt)).run Tryz.prog w = .ok (bFind p l 0) w := by
  have hu := Tryz.underlying3
  have h0 : (findKey 3 (.int .i64 (p : Int)) (l.map bEnt)) = (do match findNow (← underlying 3) (.int .i64 (p : Int)) (l.map bEnt) 0 with | some r => pure r | none => findAsking 3 (.int .i64 (p : Int)) (l.map bEnt)) := rfl
  rw [h0, Sem.run_bind, run_underlying hu, Result.andThen_ok, findNow_b]
  rfl
theorem ckInt (e : Bool) (a : Int) (w : World) : (checkKey e 10000 3 (.int .i64 a)).run Tryz.prog w = .ok () w := by cases e <;> kernel_rfl
def mapB (r : Nat) (ks : List Nat) : Ent := ⟨[r], fun w => ∃ (l : List (Nat × Nat)) (c : Nat), l.map Prod.fst = ks ∧ w.heap[r]? = some (.map (l.map bEnt).toArray c)⟩
theorem mapB_local (r : Nat) (ks : List Nat) : (mapB r ks).Local := fun w w' h hb => by
  have := h r (by simp [mapB])
  simpa [mapB, this] using hb
theorem bLook {w : World} {r : Nat} {ks : List Nat} (p : Nat) (h : (mapB r ks).holds w) : (Instr.lookup 224 (.map (some r)) (.int .i64 (p : Int)) false).run Tryz.prog w = .ok (.bool (decide (p ∈ ks))) w := by
  obtain ⟨l, c, rfl, hb⟩ := h
  have hm := Tryz.underlying224
  have hg : (getObj r).run Tryz.prog w = .ok (.map (l.map bEnt).toArray c) w := by simp [getObj, Sem.run, hb]
  have hz : (zeroValue 4).run Tryz.prog w = .ok (.bool false) w := by kernel_rfl
  have hk := findKey_b p w l
  simp only [Instr.lookup, Sem.run_bind, run_underlying hm, Result.andThen_ok, hg, Sem.run_pure, ckInt, hk]
  by_cases hp : p ∈ l.map Prod.fst
  · obtain ⟨i, h1⟩ := bFind_yes (n := 0) hp
    rw [decide_eq_true hp]
    simp [h1]
  · rw [decide_eq_false hp]
    simp [bFind_no hp, hz]
theorem Ev.St.lookB {w0 w : World} {S : Nat → Prop} {H : List Ent} (h : St w0 S w H) (i : Nat) {r : Nat} {ks : List Nat} {p : Nat} {k : Value → World → Prop} (hi : H[i]? = some (mapB r ks)) (hk : k (.bool (decide (p ∈ ks))) w) :
    RunC Tryz.prog (Instr.lookup 224 (.map (some r)) (.int .i64 (p : Int)) false) w k := ⟨_, _, bLook p (h.get i hi), hk⟩
theorem Ev.St.mkMapB {w0 w : World} {S : Nat → Prop} {H : List Ent} {k : Value → World → Prop} (h : St w0 S w H) (hk : ∀ r w', w0.heap.size ≤ r → St w0 S w' (H ++ [mapB r []]) → k (.map (some r)) w') : RunC Tryz.prog (Instr.makeMap 224 none) w k := by
  refine ⟨.map (some w.heap.size), { w with heap := w.heap.push (.map #[] 0) }, rfl, hk _ _ h.ext.size (h.made ⟨rfl, rfl, rfl, by simp, fun i hi _ => ?_⟩ (mapB_local _ _) ?_ ?_)⟩
  · show (w.heap.push _)[i]? = _
    rw [Array.getElem?_push, if_neg (by omega)]
  · refine ⟨[], 0, rfl, ?_⟩
    show (w.heap.push _)[w.heap.size]? = _
    rw [Array.getElem?_push, if_pos rfl]
    rfl
  · intro b hb
    obtain rfl : b = w.heap.size := by simpa [mapB] using hb
    simp
theorem Ev.St.insB {w0 w : World} {S : Nat → Prop} {H : List Ent} (h : St w0 S w H) (i : Nat) {r : Nat} {ks : List Nat} {p : Nat} {k : World → Prop} (hi : H[i]? = some (mapB r ks)) (hn : p ∉ ks)
    (hk : ∀ w', St w0 S w' (H.set i (mapB r (ks ++ [p]))) → k w') : RunU Tryz.prog (Instr.mapUpdate 224 (.map (some r)) (.int .i64 (p : Int)) (.bool true)) w k := by
  obtain ⟨l, c, rfl, hb⟩ := h.get i hi
  have hm := Tryz.underlying224
  have hg : (getObj r).run Tryz.prog w = .ok (.map (l.map bEnt).toArray c) w := by simp [getObj, Sem.run, hb]
  have hkk := findKey_b p w l
  rw [bFind_no hn] at hkk
  have hrun : (Instr.mapUpdate 224 (.map (some r)) (.int .i64 (p : Int)) (.bool true)).run Tryz.prog w = .ok () { w with heap := w.heap.setIfInBounds r (.map ((l ++ [(p, c)]).map bEnt).toArray (c + 1)) } := by
    simp only [Instr.mapUpdate, Sem.run_bind, run_underlying hm, Result.andThen_ok, hg, ckInt, hkk]
    simp [setObj, Sem.run, hb, bEnt]
  have hx : Ext (· = r) w { w with heap := w.heap.setIfInBounds r (.map ((l ++ [(p, c)]).map bEnt).toArray (c + 1)) } := ⟨rfl, rfl, rfl, by simp, fun j hj hs => by
    have : r ≠ j := fun e => hs e.symm
    simp [this]⟩
  refine ⟨_, hrun, hk _ (h.upd i hi hx (fun d hd => by simp [mapB, hd]) (mapB_local _ _) ⟨l ++ [(p, c)], c + 1, by simp, ?_⟩ fun d hd => .inl hd)⟩
  have := (Array.getElem?_eq_some_iff.1 hb).1
  show (w.heap.setIfInBounds r _)[r]? = _
  simp [this]

def encTel (bT : Nat) (X : TelS) : List Value := .pointer (some ⟨bT, 0, none⟩) :: (X.told.flatMap encI ++ [.int .i64 (X.cursor : Int)])
theorem tel_len {bT : Nat} {X : TelS} (h : X.told.length = 32) : (encTel bT X).length = 34 := by
  simp only [encTel, List.length_cons, List.length_append, flat_len codInt, h, List.length_nil]
theorem tel_told {bT : Nat} {X : TelS} {k : Nat} {v : Int} (h : X.told[k]? = some v) : (encTel bT X)[1 + k]? = some (.int .i64 v) := by
  have := flat_get codInt (j := 0) h rfl
  have lt := (List.getElem?_eq_some_iff.1 h).1
  rw [Nat.add_comm 1]
  unfold encTel
  rw [List.getElem?_cons_succ, List.getElem?_append_left (by rw [flat_len codInt]; omega)]
  simpa using this
theorem tel_cur {bT : Nat} {X : TelS} (h : X.told.length = 32) : (encTel bT X)[33]? = some (.int .i64 (X.cursor : Int)) := by
  unfold encTel
  rw [List.getElem?_cons_succ, List.getElem?_append_right (by rw [flat_len codInt]; omega), flat_len codInt, h]
  rfl
theorem tel_set {bT : Nat} {X : TelS} {k o : Nat} {v u : Int} (h : X.told[k]? = some u) (ho : o = 1 + k) : over (encTel bT X) o [.int .i64 v] = encTel bT ⟨X.told.set k v, X.cursor⟩ := by
  subst ho
  have lt := (List.getElem?_eq_some_iff.1 h).1
  rw [Nat.add_comm 1]
  unfold encTel
  rw [over_cons]
  have := over_mid [] (X.told.flatMap encI) [.int .i64 (X.cursor : Int)] [.int .i64 v] k (by rw [flat_len codInt]; simp; omega)
  simp only [List.nil_append, List.length_nil, Nat.zero_add] at this
  have h2 := flat_over codInt (j := 0) (y := v) (vs := [.int .i64 v]) h (by simp) rfl
  rw [Nat.mul_one, Nat.add_zero] at h2
  rw [this, h2]
theorem tel_move {bT : Nat} {X : TelS} {c : Nat} {i : Int} (h : X.told.length = 32) (hi : i = (c : Int)) : over (encTel bT X) 33 [.int .i64 i] = encTel bT ⟨X.told, c⟩ := by
  subst hi
  unfold encTel
  rw [over_cons]
  have := over_mid (X.told.flatMap encI) [.int .i64 (X.cursor : Int)] [] [.int .i64 (c : Int)] 0 (by simp)
  simp only [flat_len codInt, h, List.append_nil, Nat.mul_one, Nat.add_zero] at this
  rw [this]
  rfl

def tel0 : TelS := ⟨List.replicate 32 0, 0⟩
theorem tel_build (bT : Nat) (w : World) : (Instr.build 206 #[(0, .pointer (some ⟨bT, 0, none⟩))]).run Tryz.prog w = .ok (.agg (encTel bT tel0).toArray) w := by kernel_rfl
theorem tlNew_ok (bT : Nat) (w : World) : CallC Tryz.prog 91 #[.pointer (some ⟨bT, 0, none⟩)] w fun v w' => ∃ b, v = .pointer (some ⟨b, 0, none⟩) ∧ w.heap.size ≤ b ∧ Ext No w w' ∧ Blk w' b 206 (encTel bT tel0) := by
  have hb2 : ∀ k : Value → Prop, k (.agg (encTel bT tel0).toArray) → PureC Tryz.prog (Instr.build 206 #[(0, .pointer (some ⟨bT, 0, none⟩))]) k := fun k hk => PureC.of (tel_build bT) hk
  have ho : cellsL (.agg (encTel bT tel0).toArray) = encTel bT tel0 := by simp [cellsL]
  generalize Value.agg (encTel bT tel0).toArray = VV at hb2 ho
  refine fn_intro tabOk Tryz.func91 (by kernel_rfl) rfl Tryz.ntmps91 (Nat.le_of_ble_eq_true rfl) ?_
  have hS := St.start w No
  repeat' ((conv => whnf); first | refine RetC.mk ?_ | refine hb2 _ ?_)
  refine hS.new (fun b w' hb hS => ?_)
  rw [ho] at hS
  repeat' ((conv => whnf); first | refine RetC.mk ?_ | refine NzC.mk (by decide) ?_ | refine RngC.mk (by omega) (by omega) ?_ | refine IdxC.mk (by omega) (by omega) ?_ | refine brD (fun _ => ?_) (fun _ => ?_) | refine brND (fun _ => ?_) (fun _ => ?_) | refine brN (fun _ => ?_) (fun _ => ?_) | refine brI (fun _ => ?_) (fun _ => ?_))
  exact ⟨b, rfl, hb, hS.ext, hS.blk 0 rfl⟩

def telH (bT bx b1 b3 b4 b5 r : Nat) (X : TelS) (lv ov : Value) (l : List CellS) (p : List Nat) : List Ent :=
  [blk bx 206 (encTel bT X), blk b1 46 [.pointer (some ⟨bx, 0, none⟩)], ownL 59 10 encCell lv l, blk b3 54 [lv], mapB r p, blk b4 224 [.map (some r)], blk b5 54 [ov], ownL 59 10 encCell ov (outC l p)]
theorem outC_len (l : List CellS) (p : List Nat) : (outC l p).length = p.length := by simp [outC]

section
variable {w0 w : World} {S : Nat → Prop} {bT bx b1 b3 b4 b5 r cl : Nat} {al : Option Addr} {ov : Value} {X : TelS} {l : List CellS} {p : List Nat}
theorem Ev.St.ownBNe {w0 w : World} {S : Nat → Prop} {H : List Ent} (h : St w0 S w H) (i j : Nat) {α : Type} {b : Nat} {t e : TypeId} {cs : List Value} {sz : Nat} {enc : α → List Value} {v : Value} {xs : List α} (hi : H[i]? = some (Ev.blk b t cs)) (hj : H[j]? = some (ownL e sz enc v xs)) (hne : i ≠ j) : ¬ v.ownBlock = some b := by
  intro hv
  have := pairwise_at apart_symm h.apart hi hj hne b (by simp [Ev.blk])
  simp [ownL, own, hv] at this
theorem take_ok (k : Nat) (hk : k < 32) (hl : l.length = 32) (ht : X.told.length = 32) (hn : k ∉ p) (h8 : p.length < 8) (hS : St w0 S w (telH bT bx b1 b3 b4 b5 r X (.slice al 32 cl) ov l p)) :
    CallC Tryz.prog 150 #[.int .i64 (k : Int), .pointer (some ⟨b4, 0, none⟩), .pointer (some ⟨b3, 0, none⟩), .pointer (some ⟨b1, 0, none⟩), .pointer (some ⟨b5, 0, none⟩)] w fun _ w' => ∃ a' c', St w0 S w' (telH bT bx b1 b3 b4 b5 r ⟨X.told.set k (verAt l k), X.cursor⟩ (.slice al 32 cl) (.slice a' (p.length + 1) c') l (p ++ [k])) := by
  obtain ⟨x, hx⟩ : ∃ x, l[k]? = some x := ⟨_, List.getElem?_eq_getElem (by omega)⟩
  obtain ⟨u, hu⟩ : ∃ u, X.told[k]? = some u := ⟨_, List.getElem?_eq_getElem (by omega)⟩
  have hver := verAt_of hx
  have hcell := cellAt_of hx
  rw [hver]
  unfold telH at hS ⊢
  refine fn_intro tabOk Tryz.func150 (by kernel_rfl) rfl Tryz.ntmps150 (Nat.le_of_ble_eq_true rfl) ?_
  (conv => whnf)
  refine hS.ld 5 rfl rfl ?_
  (conv => whnf)
  refine hS.insB 4 rfl hn (fun w' hS => ?_)
  replace hS : St w0 S w' [blk bx 206 (encTel bT X), blk b1 46 [.pointer (some ⟨bx, 0, none⟩)], ownL 59 10 encCell (.slice al 32 cl) l, blk b3 54 [.slice al 32 cl], mapB r (p ++ [k]), blk b4 224 [.map (some r)], blk b5 54 [ov], ownL 59 10 encCell ov (outC l p)] := hS
  have h10 : ¬ b1 = bx := Blk.ne (hS.blk 1 rfl) (hS.blk 0 rfl) (by decide)
  have h30 : ¬ b3 = bx := Blk.ne (hS.blk 3 rfl) (hS.blk 0 rfl) (by decide)
  have h35 : ¬ b3 = b5 := fun e => pairwise_at apart_symm hS.apart (i := 3) (j := 6) rfl rfl (by decide) b3 (by simp [blk]) (by simp [blk, e])
  have h3o : ¬ ov.ownBlock = some b3 := hS.ownBNe 3 7 rfl rfl (by decide)
  (conv => whnf)
  (refine drawS tabOk mixed [] ((· = bx)) [0, 1, 2, 3, 4, 5, 6, 7, 8, 9, 10] (by kernel_rfl) ?_; rintro w1 rfl; replace hS := hS.drew)
  obtain ⟨bl, ol, x', hx', _, hal, _, hc⟩ := (ownL_slc (G := fun _ => True) codCell (hS.get 2 rfl) fun _ _ => trivial).at hk
  obtain rfl := Option.some.inj (hx'.symm.trans hx)
  subst hal
  have hbl : ¬ bl = bx := hS.ownNe 0 2 rfl rfl (by decide) bl ol rfl
  have hb5 : ¬ bl = b5 := hS.ownNe 6 2 rfl rfl (by decide) bl ol rfl
  have hbo : ¬ ov.ownBlock = some bl := by
    intro hv
    have := pairwise_at apart_symm hS.apart (i := 2) (j := 7) rfl rfl (by decide) bl (by simp [ownL, own, Value.ownBlock])
    simp [ownL, own, hv] at this
  repeat' ((conv => whnf); first | refine IdxC.mk (by omega) (by omega) ?_ | refine hS.ldF 1 rfl rfl h10 ?_ | refine hS.ldF 3 rfl rfl h30 ?_ | refine ldFc (hc.one 1 rfl) hbl ?_)
  refine hS.stX 0 rfl (by rw [tel_len ht]; simp [cellsL]; omega) rfl (fun w2 hx2 hS => ?_)
  refine KeepC.mk hx2 ?_
  have hc := hx2.cells hc hbl
  have ho : over (encTel bT X) (0 + 1 + Int.toNat (k : Int) * 1) (cellsL (.int .i64 x'.ver)) = encTel bT ⟨X.told.set k x'.ver, X.cursor⟩ := tel_set hu (by simp)
  replace hS : St w0 S w2 [blk bx 206 (encTel bT ⟨X.told.set k x'.ver, X.cursor⟩), blk b1 46 [.pointer (some ⟨bx, 0, none⟩)], ownL 59 10 encCell (.slice (some ⟨bl, ol, none⟩) 32 cl) l, blk b3 54 [.slice (some ⟨bl, ol, none⟩) 32 cl], mapB r (p ++ [k]), blk b4 224 [.map (some r)], blk b5 54 [ov], ownL 59 10 encCell ov (outC l p)] := by rw [← ho]; exact hS
  clear hx2 ho
  (conv => whnf)
  refine drawT tabOk mixed [0] (fun q => q = b5 ∨ ov.ownBlock = some q) (.take 1 (.take 2 (.take 3 (.take 4 (.alt 0 (.alt 5 (.alt 6 (.alt 7 .fin .fin) .fin) .fin) (.alt 5 (.alt 0 (.alt 6 (.alt 7 .fin .fin) .fin) .fin) .fin)))))) (by kernel_rfl) ?_
  rintro w1 rfl
  replace hS := hS.drew
  replace hc := (Ext.drawn No w2 (w2.drawn + 1)).cells hc id
  have no1 : ¬ (b3 = b5 ∨ ov.ownBlock = some b3) := fun e => e.elim h35 h3o
  have no2 : ¬ (bl = b5 ∨ ov.ownBlock = some bl) := fun e => e.elim hb5 hbo
  repeat' ((conv => whnf); first | refine IdxC.mk (by omega) (by omega) ?_ | refine hS.ldF 3 rfl rfl no1 ?_ | refine laFc (l := encCell x') rfl hc no2 ?_ | refine And.intro ?_ ?_)
  all_goals
    repeat' ((conv => whnf); first | refine hS.ld 6 rfl rfl ?_ | refine KeepC.mk (Ext.refl _ _) ?_ | refine KeepC.mk hx3.of_no ?_ | refine And.intro ?_ ?_ | exact trivial | refine hS.litX Tryz.underlying54 (sz := 10) (by kernel_rfl) (z := .agg (encCell ⟨0, 0, noFlow⟩).toArray) (by kernel_rfl) rfl rfl (cs := encCell x') (by rfl) (fun b9 w3 hb9 hx3 hS => ?_))
    refine hS.appX codCell 7 (ys := [x']) (G := fun _ => True) Tryz.underlying54 (bytes := 80) (by kernel_rfl) (z := .agg (encCell ⟨0, 0, noFlow⟩).toArray) (by kernel_rfl) rfl rfl (Slc.of_blk codCell (hS.blk 8 rfl) rfl (by simp) (fun _ _ => trivial) rfl) (by unfold maxLen; rw [outC_len]; omega) (by rw [outC_len]; omega) (fun a2 c2 w4 hx4 hS => ?_)
    refine KeepC.mk (hx3.of_no.trans (hx4.mono fun q hq => .inr hq)) ?_
    repeat' ((conv => whnf); first | refine And.intro ?_ ?_ | exact trivial)
    refine hS.stX 6 rfl (by simp [cellsL]) rfl (fun w5 hx5 hS => ?_)
    refine KeepC.mk ((hx3.of_no.trans (hx4.mono fun q hq => .inr hq)).trans (hx5.mono fun q hq => .inl hq)) ?_
    repeat' ((conv => whnf); first | refine RetC.mk ?_ | refine And.intro ?_ ?_ | exact trivial)
    have hoc : outC l p ++ [x'] = outC l (p ++ [k]) := by simp [outC, hcell]
    have hcl : (outC l p).length + 1 = p.length + 1 := by rw [outC_len]
    replace hS := hS.keep 8
    refine ⟨a2, c2, ?_⟩
    rw [hcl, hoc] at hS
    exact hS
end
end Go.Proofs.YtoaghhcjlfiflaaGreatDoor

namespace Go.Proofs.YtoaghhcjlfiflaaGreatDoor
open Go Ev

section
variable {w : World} {bT bx : Nat} {X : TelS} {T : MirS}
theorem tlNext_ok (hX : Blk w bx 206 (encTel bT X)) (hT : Blk w bT 162 (encM T)) (hl : T.cells.length = 32) (ht : X.told.length = 32) (hc : X.cursor < 32) :
    CallC Tryz.prog 102 #[.pointer (some ⟨bx, 0, none⟩)] w fun v w' => (∃ a' c', v = .slice a' (X.picks T.cells).length c') ∧ Ext (· = bx) w w' ∧ Blk w' bx 206 (encTel bT (X.next T.cells)) ∧ (ownL 59 10 encCell v (outC T.cells (X.picks T.cells))).holds w' ∧ Fresh w w' v := by
  have hbT : ¬ bT = bx := Blk.ne hT hX (by decide)
  have hlx := hX.lt
  generalize hL : T.cells = l at hl ⊢
  refine fn_intro tabOk Tryz.func102 (by kernel_rfl) rfl Tryz.ntmps102 (Nat.le_of_ble_eq_true rfl) ?_
  have hS := (St.start w (· = bx)).add (blk_local bx _ _) hX (by simp [blk]; exact hlx) (by simp)
  (conv => whnf)
  refine hS.new (fun b1 w' _ hS => ?_)
  (conv => whnf)
  refine hS.ld 1 rfl rfl ?_
  (conv => whnf)
  refine hS.ld 0 rfl rfl ?_
  (conv => whnf)
  refine (tcells_ok (hS.ext.blk hT hbT) (by rw [hL]; exact hl)).mono ?_
  rintro v w' ⟨al, cl, rfl, hx', ho, hf⟩
  rw [hL] at ho
  replace hS := hS.madeL hx' ho hf
  clear hx' ho hf
  (conv => whnf)
  refine hS.new (fun b3 w' _ hS => ?_)
  (conv => whnf)
  refine hS.st 3 rfl (Nat.le_of_ble_eq_true rfl) rfl (fun w' hS => ?_)
  (conv => whnf)
  refine hS.mkMapB (fun r w' _ hS => ?_)
  (conv => whnf)
  refine hS.new (fun b4 w' _ hS => ?_)
  (conv => whnf)
  refine hS.st 5 rfl (Nat.le_of_ble_eq_true rfl) rfl (fun w' hS => ?_)
  (conv => whnf)
  refine hS.new (fun b5 w' _ hS => ?_)
  have hS := hS.add (ownL_local (e := 59) (enc := encCell) (sz := 10) (v := .slice none 0 0) (xs := [])) (own_nil _ _ _) (by simp [ownL, own, Value.ownBlock]) (by simp [ownL, own, Value.ownBlock])
  replace hS : St w (· = bx) w' (telH bT bx b1 b3 b4 b5 r ⟨tellAll l X.told (pick1 l X.told 0), X.cursor⟩ (.slice al 32 cl) (.slice none 0 0) l (pick1 l X.told 0)) := hS
  (conv => whnf)
  refine hS.ld 3 rfl rfl ?_
  (conv => whnf)
  refine loopR tabOk (fun σ w' q => ∃ (k : Nat) (ov : Value), σ = [(19, .int .i64 k), (18, .int .i64 (32 : Nat)), (17, .slice al 32 cl), (6, .func (.func 150) #[] #[.pointer (some ⟨b4, 0, none⟩), .pointer (some ⟨b3, 0, none⟩), .pointer (some ⟨b1, 0, none⟩), .pointer (some ⟨b5, 0, none⟩)]), (5, .pointer (some ⟨b5, 0, none⟩)), (4, .pointer (some ⟨b4, 0, none⟩)), (3, .pointer (some ⟨b3, 0, none⟩)), (1, .pointer (some ⟨b1, 0, none⟩))] ∧ q = 32 - k ∧ k ≤ 32 ∧ (∃ a' c', ov = .slice a' (pick1 l X.told k).length c') ∧ St w (· = bx) w' (telH bT bx b1 b3 b4 b5 r ⟨tellAll l X.told (pick1 l X.told k), X.cursor⟩ (.slice al 32 cl) ov l (pick1 l X.told k)))
    (σ' := [(19, .int .i64 ((0 : Nat) : Int)), (18, .int .i64 (32 : Nat)), (17, .slice al 32 cl), (6, .func (.func 150) #[] #[.pointer (some ⟨b4, 0, none⟩), .pointer (some ⟨b3, 0, none⟩), .pointer (some ⟨b1, 0, none⟩), .pointer (some ⟨b5, 0, none⟩)]), (5, .pointer (some ⟨b5, 0, none⟩)), (4, .pointer (some ⟨b4, 0, none⟩)), (3, .pointer (some ⟨b3, 0, none⟩)), (1, .pointer (some ⟨b1, 0, none⟩))]) (n := 32) ⟨rfl, rfl, rfl, rfl, rfl, rfl, rfl, rfl, trivial⟩ ⟨0, _, rfl, rfl, Nat.zero_le _, ⟨none, 0, rfl⟩, hS⟩ ?_
  clear hS
  rintro _ w1 q ⟨k, _, rfl, rfl, hk, ⟨a', c', rfl⟩, hS⟩
  have hplt : ∀ x ∈ pick1 l X.told k, x < k := fun x hx => pick1_lt hx
  have hp8 := pick1_len l X.told k
  have hps := pick1_succ l X.told k
  have htl := (tellAll_len l (pick1 l X.told k) X.told).trans ht
  (conv => whnf)
  refine brD (fun h3 => ?_) (fun h3 => ?_)
  · have hk : k < 32 := by omega
    have hkn : k ∉ pick1 l X.told k := fun h => Nat.lt_irrefl _ (hplt k h)
    have htk := tellAll_at l (pick1 l X.told k) X.told k (by omega)
    rw [if_neg hkn] at htk
    obtain ⟨x, hx⟩ : ∃ x, l[k]? = some x := ⟨_, List.getElem?_eq_getElem (by omega)⟩
    have hver := verAt_of hx
    generalize pick1 l X.told k = p at hS hplt hp8 hps htl hkn htk
    unfold telH at hS
    obtain ⟨bl, ol, x', hx', _, rfl, _, hcx⟩ := (ownL_slc (G := fun _ => True) codCell (hS.get 2 rfl) fun _ _ => trivial).at hk
    obtain rfl := Option.some.inj (hx'.symm.trans hx)
    (conv => whnf)
    refine IdxC.mk (by omega) (by omega) ?_
    (conv => whnf)
    refine lac (l := encCell x') rfl hcx ?_
    (conv => whnf)
    refine hS.new (fun b8 w' _ hS => ?_)
    (conv => whnf)
    refine hS.st 8 rfl (Nat.le_of_ble_eq_true rfl) rfl (fun w' hS => ?_)
    (conv => whnf)
    (refine drawS tabOk mixed [] No [0, 1, 2, 3, 4, 5, 6, 7, 8, 9, 10, 11, 12, 13] (by kernel_rfl) ?_; rintro w1 rfl; replace hS := hS.drew)
    have hd := tel_told (bT := bT) (X := ⟨tellAll l X.told p, X.cursor⟩) htk
    repeat' ((conv => whnf); first | refine RetC.mk ?_ | refine NzC.mk (by decide) ?_ | refine RngC.mk (by omega) (by omega) ?_ | refine IdxC.mk (by omega) (by omega) ?_ | refine hS.ldF 8 rfl rfl id ?_ | refine hS.ldF 1 rfl rfl id ?_ | refine IdxC.mk (by omega) (by omega) ?_ | refine hS.ldF 0 rfl (o := 0 + 1 + Int.toNat (k : Int) * 1) (by rw [← hd]; congr 1; simp) id ?_ | refine hS.ldF 6 rfl rfl id ?_ | refine brD (fun _ => ?_) (fun _ => ?_) | refine brND (fun _ => ?_) (fun _ => ?_) | refine brN (fun _ => ?_) (fun _ => ?_) | refine brI (fun _ => ?_) (fun _ => ?_))
    · rename_i h1 h2
      have hlag : lagB l X.told k = true := decide_eq_true (by rw [hver]; exact h1)
      rw [if_pos ⟨hlag, by omega⟩] at hps
      (conv => whnf)
      refine (take_ok k hk hl htl hkn (by omega) (hS.keep 8)).mono ?_
      clear hS
      rintro v w' ⟨a2, c2, hS⟩
      have htt : (tellAll l X.told p).set k (verAt l k) = tellAll l X.told (p ++ [k]) := (tellAll_app l X.told p k).symm
      dsimp only at hS
      rw [htt, ← hps] at hS
      have hpl : p.length + 1 = (pick1 l X.told (k + 1)).length := by rw [hps]; simp
      rw [hpl] at hS
      (conv => whnf)
      refine RngC.mk (by omega) (by omega) ?_
      (conv => whnf)
      refine LoopE.mk ⟨_, [(19, .int .i64 ((k + 1 : Nat) : Int)), (18, _), (17, _), (6, _), (5, _), (4, _), (3, _), (1, _)], ?_, ⟨rfl, rfl, rfl, rfl, rfl, rfl, rfl, rfl, trivial⟩, ⟨k + 1, _, rfl, rfl, by omega, ⟨a2, c2, rfl⟩, hS⟩⟩
      omega
    · rename_i h1 h2
      rw [if_neg (fun h => h2 (by omega))] at hps
      rw [← hps] at hS
      refine LoopE.mk ⟨_, [(19, .int .i64 ((k + 1 : Nat) : Int)), (18, _), (17, _), (6, _), (5, _), (4, _), (3, _), (1, _)], ?_, ⟨rfl, rfl, rfl, rfl, rfl, rfl, rfl, rfl, trivial⟩, ⟨k + 1, _, rfl, rfl, by omega, ⟨a', c', by rw [hps]⟩, hS.keep 8⟩⟩
      omega
    · rename_i h1
      rw [if_neg (fun h => absurd (hver.trans h1) (of_decide_eq_true h.1))] at hps
      rw [← hps] at hS
      refine LoopE.mk ⟨_, [(19, .int .i64 ((k + 1 : Nat) : Int)), (18, _), (17, _), (6, _), (5, _), (4, _), (3, _), (1, _)], ?_, ⟨rfl, rfl, rfl, rfl, rfl, rfl, rfl, rfl, trivial⟩, ⟨k + 1, _, rfl, rfl, by omega, ⟨a', c', by rw [hps]⟩, hS.keep 8⟩⟩
      omega
  · obtain rfl : k = 32 := by omega
    have hnd := pick1_nodup l X.told 32
    have hpk : X.picks l = (stage2 32 X.cursor (pick1 l X.told 32)).2 := rfl
    have hnx : X.next l = ⟨tellAll l X.told (X.picks l), (stage2 32 X.cursor (pick1 l X.told 32)).1⟩ := rfl
    have hsw : Swept X.cursor 0 X.cursor (pick1 l X.told 32) := ⟨by omega, fun i hi => absurd hi (Nat.not_lt_zero _)⟩
    clear hps
    generalize hs2 : stage2 32 X.cursor (pick1 l X.told 32) = z2 at hpk hnx
    generalize pick1 l X.told 32 = p at hS hplt hp8 htl hnd hsw hs2
    (conv => whnf)
    refine loopR tabOk (fun σ w' q => ∃ (j c : Nat) (p : List Nat) (ov : Value), σ = [(6, .func (.func 150) #[] #[.pointer (some ⟨b4, 0, none⟩), .pointer (some ⟨b3, 0, none⟩), .pointer (some ⟨b1, 0, none⟩), .pointer (some ⟨b5, 0, none⟩)]), (5, .pointer (some ⟨b5, 0, none⟩)), (4, .pointer (some ⟨b4, 0, none⟩)), (3, .pointer (some ⟨b3, 0, none⟩)), (1, .pointer (some ⟨b1, 0, none⟩))] ∧ q = 32 - j ∧ p.length ≤ 8 ∧ c < 32 ∧ Swept X.cursor j c p ∧ stage2 (32 - j) c p = z2 ∧ (∃ a' c', ov = .slice a' p.length c') ∧ St w (· = bx) w' (telH bT bx b1 b3 b4 b5 r ⟨tellAll l X.told p, c⟩ (.slice al 32 cl) ov l p))
      (σ' := [(6, .func (.func 150) #[] #[.pointer (some ⟨b4, 0, none⟩), .pointer (some ⟨b3, 0, none⟩), .pointer (some ⟨b1, 0, none⟩), .pointer (some ⟨b5, 0, none⟩)]), (5, .pointer (some ⟨b5, 0, none⟩)), (4, .pointer (some ⟨b4, 0, none⟩)), (3, .pointer (some ⟨b3, 0, none⟩)), (1, .pointer (some ⟨b1, 0, none⟩))]) (n := 32) ⟨rfl, rfl, rfl, rfl, rfl, trivial⟩ ⟨0, X.cursor, p, _, rfl, rfl, hp8, hc, hsw, hs2, ⟨a', c', rfl⟩, hS⟩ ?_
    clear hS hp8 hplt htl hnd hsw hs2
    clear p
    rintro _ w1 q ⟨j, c, p, _, rfl, rfl, hp8, hc32, hsw, hs2, ⟨a', c', rfl⟩, hS⟩
    have htl := (tellAll_len l p X.told).trans ht
    unfold telH at hS
    have hcur : (encTel bT ⟨tellAll l X.told p, c⟩)[33]? = some (.int .i64 (c : Int)) := tel_cur htl
    have h10 : ¬ b1 = bx := Blk.ne (hS.blk 1 rfl) (hS.blk 0 rfl) (by decide)
    (conv => whnf)
    refine hS.ld 6 rfl rfl ?_
    (conv => whnf)
    refine brD (fun h3 => ?_) (fun h3 => ?_)
    · have h8 : p.length < 8 := by omega
      have hj := hsw.few hc h8
      have hstep := hsw.step
      rw [show 32 - j = (32 - (j + 1)) + 1 by omega, stage2_step h8] at hs2
      (conv => whnf)
      refine hS.ld 1 rfl rfl ?_
      (conv => whnf)
      refine hS.ld 0 rfl hcur ?_
      (conv => whnf)
      refine hS.ld 5 rfl rfl ?_
      (conv => whnf)
      refine hS.lookB 4 rfl ?_
      by_cases hcp : c ∈ p
      · rw [decide_eq_true hcp]
        rw [if_pos hcp] at hs2 hstep
        (conv => whnf)
        have hcur2 : (encTel bT ⟨tellAll l X.told p, c⟩)[33]? = some (.int .i64 (c : Int)) := tel_cur htl
        (refine drawS tabOk mixed [4] (· = bx) [0, 1, 2, 3, 4, 5, 6, 7, 8, 9] (by kernel_rfl) ?_; rintro w1 rfl; replace hS := hS.drew)
        repeat' ((conv => whnf); first | refine RetC.mk ?_ | refine NzC.mk (by decide) ?_ | refine RngC.mk (by omega) (by omega) ?_ | refine IdxC.mk (by omega) (by omega) ?_ | refine hS.ldF 1 rfl rfl h10 ?_ | refine hS.ld 0 rfl hcur2 ?_ | refine KeepC.mk (Ext.refl _ _) ?_ | refine brD (fun _ => ?_) (fun _ => ?_) | refine brND (fun _ => ?_) (fun _ => ?_) | refine brN (fun _ => ?_) (fun _ => ?_) | refine brI (fun _ => ?_) (fun _ => ?_))
        refine hS.stX 0 rfl (by rw [tel_len htl]; simp [cellsL]) rfl (fun w2 hx2 hS => ?_)
        refine KeepC.mk hx2 ?_
        have hmv : over (encTel bT ⟨tellAll l X.told p, c⟩) (0 + 33) (cellsL (.int .i64 (((c : Int) + 1).tmod 32))) = encTel bT ⟨tellAll l X.told p, (c + 1) % 32⟩ := tel_move htl (by rw [Int.tmod_eq_emod_of_nonneg (by omega)]; omega)
        replace hS : St w (· = bx) w2 (telH bT bx b1 b3 b4 b5 r ⟨tellAll l X.told p, (c + 1) % 32⟩ (.slice al 32 cl) (.slice a' p.length c') l p) := by
          unfold telH
          rw [← hmv]
          exact hS
        (conv => whnf)
        refine LoopE.mk ⟨_, [(6, _), (5, _), (4, _), (3, _), (1, _)], ?_, ⟨rfl, rfl, rfl, rfl, rfl, trivial⟩, ⟨j + 1, (c + 1) % 32, p, _, rfl, rfl, hp8, Nat.mod_lt _ (by omega), hstep, hs2, ⟨a', c', rfl⟩, hS⟩⟩
        omega
      · rw [decide_eq_false hcp]
        rw [if_neg hcp] at hs2 hstep
        (conv => whnf)
        refine (take_ok c hc32 hl htl hcp h8 hS).mono ?_
        clear hS
        rintro v w' ⟨a2, c2, hS⟩
        have htt : (tellAll l X.told p).set c (verAt l c) = tellAll l X.told (p ++ [c]) := (tellAll_app l X.told p c).symm
        dsimp only at hS
        have hpl : p.length + 1 = (p ++ [c]).length := by simp
        rw [htt, hpl] at hS
        have htl2 := (tellAll_len l (p ++ [c]) X.told).trans ht
        have hp9 : (p ++ [c]).length ≤ 8 := by simp; omega
        unfold telH at hS
        (conv => whnf)
        have hcur2 : (encTel bT ⟨tellAll l X.told (p ++ [c]), c⟩)[33]? = some (.int .i64 (c : Int)) := tel_cur htl2
        (refine drawS tabOk mixed [4] (· = bx) [0, 1, 2, 3, 4, 5, 6, 7, 8, 9] (by kernel_rfl) ?_; rintro w1 rfl; replace hS := hS.drew)
        repeat' ((conv => whnf); first | refine RetC.mk ?_ | refine NzC.mk (by decide) ?_ | refine RngC.mk (by omega) (by omega) ?_ | refine IdxC.mk (by omega) (by omega) ?_ | refine hS.ldF 1 rfl rfl h10 ?_ | refine hS.ld 0 rfl hcur2 ?_ | refine KeepC.mk (Ext.refl _ _) ?_ | refine brD (fun _ => ?_) (fun _ => ?_) | refine brND (fun _ => ?_) (fun _ => ?_) | refine brN (fun _ => ?_) (fun _ => ?_) | refine brI (fun _ => ?_) (fun _ => ?_))
        refine hS.stX 0 rfl (by rw [tel_len htl2]; simp [cellsL]) rfl (fun w2 hx2 hS => ?_)
        refine KeepC.mk hx2 ?_
        have hmv : over (encTel bT ⟨tellAll l X.told (p ++ [c]), c⟩) (0 + 33) (cellsL (.int .i64 (((c : Int) + 1).tmod 32))) = encTel bT ⟨tellAll l X.told (p ++ [c]), (c + 1) % 32⟩ := tel_move htl2 (by rw [Int.tmod_eq_emod_of_nonneg (by omega)]; omega)
        replace hS : St w (· = bx) w2 (telH bT bx b1 b3 b4 b5 r ⟨tellAll l X.told (p ++ [c]), (c + 1) % 32⟩ (.slice al 32 cl) (.slice a2 (p ++ [c]).length c2) l (p ++ [c])) := by
          unfold telH
          rw [← hmv]
          exact hS
        (conv => whnf)
        refine LoopE.mk ⟨_, [(6, _), (5, _), (4, _), (3, _), (1, _)], ?_, ⟨rfl, rfl, rfl, rfl, rfl, trivial⟩, ⟨j + 1, (c + 1) % 32, (p ++ [c]), _, rfl, rfl, hp9, Nat.mod_lt _ (by omega), hstep, hs2, ⟨a2, c2, rfl⟩, hS⟩⟩
        omega
    · have h8 : ¬ p.length < 8 := by omega
      rw [stage2_done h8] at hs2
      subst hs2
      rw [show X.picks l = p from hpk] at hnx ⊢
      rw [hnx]
      (conv => whnf)
      refine hS.ld 6 rfl rfl ?_
      repeat' ((conv => whnf); first | refine RetC.mk ?_ | refine NzC.mk (by decide) ?_ | refine RngC.mk (by omega) (by omega) ?_ | refine IdxC.mk (by omega) (by omega) ?_ | refine brD (fun _ => ?_) (fun _ => ?_) | refine brND (fun _ => ?_) (fun _ => ?_) | refine brN (fun _ => ?_) (fun _ => ?_) | refine brI (fun _ => ?_) (fun _ => ?_))
      refine ⟨⟨a', c', rfl⟩, hS.ext, hS.blk 0 rfl, hS.get 7 rfl, fun g hg => ?_⟩
      obtain ⟨h1, h2⟩ := hS.may _ (List.mem_of_getElem? (i := 7) rfl) g (by simpa [ownL, own] using hg)
      refine ⟨h1.resolve_left ?_, h2⟩
      rintro rfl
      exact hS.ownBNe 0 7 rfl rfl (by decide) hg
end
end Go.Proofs.YtoaghhcjlfiflaaGreatDoor

namespace Go.Proofs.YtoaghhcjlfiflaaGreatDoor
open Go Ev

def refL (bt bl gl cl : Nat) (X : TelS) : Ent := ⟨[bl, gl], fun w => bl ≠ gl ∧ Blk w bl 244 [.pointer (some ⟨bt, 0, none⟩), .slice (some ⟨gl, 0, none⟩) 32 cl, .int .i64 (X.cursor : Int)] ∧ (ownL 3 1 encI (.slice (some ⟨gl, 0, none⟩) 32 cl) X.told).holds w⟩
theorem refL_local {bt bl gl cl : Nat} {X : TelS} : (refL bt bl gl cl X).Local := fun w w' h ⟨h1, h2, h3⟩ =>
  ⟨h1, blk_local bl _ _ w w' (fun b hb => h b (by simp [blk] at hb; simp [refL, hb])) h2, ownL_local w w' (fun b hb => h b (by simp [ownL, own, Value.ownBlock] at hb; simp [refL, hb])) h3⟩

section
variable {w : World} {bt g c bl gl cl : Nat} {T : MirS} {X : TelS}
theorem rlNew_ok (w : World) : CallC Tryz.prog 112 #[.pointer (some ⟨bt, 0, none⟩)] w fun v w' => ∃ bl gl cl, v = .pointer (some ⟨bl, 0, none⟩) ∧ Ext No w w' ∧ (refL bt bl gl cl tel0).holds w' ∧ (∀ b ∈ (refL bt bl gl cl tel0).foot, w.heap.size ≤ b ∧ b < w'.heap.size) := by
  refine fn_intro tabOk Tryz.func112 (by kernel_rfl) rfl Tryz.ntmps112 (Nat.le_of_ble_eq_true rfl) ?_
  have hS := St.start w No
  (conv => whnf)
  refine hS.mkSlice (n := 32) Tryz.underlying62 (sz := 1) (bytes := 8) (by kernel_rfl) (z := .int .i64 0) (by kernel_rfl) (by decide) (by decide) (by decide) (enc := encI) (xs := List.replicate 32 (0 : Int)) (by simp) (by kernel_rfl) (fun gl w' hgl hS => ?_)
  (conv => whnf)
  refine hS.new (fun bl w' hbl hS => ?_)
  repeat' ((conv => whnf); first | refine RetC.mk ?_ | refine NzC.mk (by decide) ?_ | refine RngC.mk (by omega) (by omega) ?_ | refine IdxC.mk (by omega) (by omega) ?_ | refine brD (fun _ => ?_) (fun _ => ?_) | refine brND (fun _ => ?_) (fun _ => ?_) | refine brN (fun _ => ?_) (fun _ => ?_) | refine brI (fun _ => ?_) (fun _ => ?_))
  refine ⟨bl, gl, 32, rfl, hS.ext, ⟨?_, hS.get 1 rfl, hS.get 0 rfl⟩, ?_⟩
  · have := pairwise_at apart_symm hS.apart (i := 1) (j := 0) rfl rfl (by decide) bl (by simp [blk])
    simpa [ownL, own, Value.ownBlock] using this
  · intro b hb
    simp only [refL, List.mem_cons, List.not_mem_nil, or_false] at hb
    rcases hb with rfl | rfl
    · have := hS.may _ (List.mem_of_getElem? (i := 1) rfl) b (by simp [blk])
      exact ⟨this.1.resolve_left id, this.2⟩
    · have := hS.may _ (List.mem_of_getElem? (i := 0) rfl) b (by simp [ownL, own, Value.ownBlock])
      exact ⟨this.1.resolve_left id, this.2⟩

end
end Go.Proofs.YtoaghhcjlfiflaaGreatDoor

namespace Go.Proofs.YtoaghhcjlfiflaaGreatDoor
open Go Ev

structure S2 (c0 : Nat) (p z : List Nat) (c : Nat) : Prop where
  len : z.length = 8
  nd : z.Nodup
  lt : ∀ x ∈ z, x < 32
  sub : ∀ x ∈ p, x ∈ z
  cur : c < 32
theorem stage2_law {c0 : Nat} (hc0 : c0 < 32) : ∀ (n j c : Nat) (p : List Nat), n + j = 32 → Swept c0 j c p → c < 32 → p.length ≤ 8 → p.Nodup → (∀ x ∈ p, x < 32) → S2 c0 p (stage2 n c p).2 (stage2 n c p).1
  | n, j, c, p, hn, hs, hc, hp, hd, hl => by
    by_cases h8 : p.length < 8
    · have hj := hs.few hc0 h8
      obtain ⟨m, rfl⟩ : ∃ m, n = m + 1 := ⟨n - 1, by omega⟩
      rw [stage2_step h8]
      have ih := stage2_law hc0 m (j + 1) ((c + 1) % 32) (if c ∈ p then p else p ++ [c]) (by omega) hs.step (Nat.mod_lt _ (by omega)) (by
          split
          · exact hp
          · simp
            omega)
        (by
          split
          · exact hd
          · rename_i h
            rw [List.nodup_append]
            exact ⟨hd, by simp, fun a ha b hb => by simp at hb; subst hb; rintro rfl; exact h ha⟩)
        (by
          split
          · exact hl
          · intro x hx
            rcases List.mem_append.1 hx with h | h
            · exact hl x h
            · simp at h; omega)
      refine ⟨ih.len, ih.nd, ih.lt, fun x hx => ih.sub x ?_, ih.cur⟩
      split
      · exact hx
      · exact List.mem_append_left _ hx
    · rw [stage2_done h8]
      exact ⟨by dsimp only; omega, hd, hl, fun _ h => h, hc⟩
theorem picks_law {X : TelS} (l : List CellS) (hc : X.cursor < 32) : S2 X.cursor (pick1 l X.told 32) (X.picks l) (X.next l).cursor :=
  stage2_law hc 32 0 X.cursor _ rfl ⟨by omega, fun i hi => absurd hi (Nat.not_lt_zero _)⟩ hc (pick1_len _ _ _) (pick1_nodup _ _ _) fun _ h => pick1_lt h

theorem told_next {X : TelS} (l : List CellS) (ht : X.told.length = 32) : (X.next l).told.length = 32 := (tellAll_len l _ _).trans ht
end Go.Proofs.YtoaghhcjlfiflaaGreatDoor

namespace Go.Proofs.YtoaghhcjlfiflaaGreatDoor
open Go Ev

abbrev encBo (x : Bool) : List Value := [.bool x]
theorem codBo : Codec 1 encBo := ⟨fun _ => rfl, fun _ => rfl, by decide⟩
def takL (p : List Nat) : List Bool := (List.range 32).map fun k => decide (k ∈ p)
theorem takL_len (p : List Nat) : (takL p).length = 32 := by simp [takL]
theorem takL_at {p : List Nat} {k : Nat} (h : k < 32) : (takL p)[k]? = some (decide (k ∈ p)) := by simp [takL, h]
theorem takL_set {p : List Nat} {k : Nat} (h : k < 32) : (takL p).set k true = takL (p ++ [k]) := by
  apply List.ext_getElem?
  intro i
  rw [List.getElem?_set]
  by_cases e : k = i
  · subst e
    rw [if_pos rfl, if_pos (by rw [takL_len]; exact h), takL_at h]
    simp
  · rw [if_neg e]
    by_cases hi : i < 32
    · rw [takL_at hi, takL_at hi]
      have : ¬ i = k := fun x => e x.symm
      simp [this]
    · rw [List.getElem?_eq_none (by rw [takL_len]; omega), List.getElem?_eq_none (by rw [takL_len]; omega)]
theorem pick1_full {l : List CellS} {t : List Int} {k : Nat} (h : (pick1 l t k).length = 8) : ∀ d, pick1 l t (k + d) = pick1 l t k
  | 0 => rfl
  | d + 1 => by
    have ih := pick1_full h d
    rw [← Nat.add_assoc, pick1_succ, ih, if_neg (by omega)]

theorem out_at {n : Nat} {T : MirS} (hO : TOk n T) {p : List Nat} (hp : ∀ x ∈ p, x < 32) {i : Nat} (hi : i < p.length) : ∃ k, p[i]? = some k ∧ ∀ c, (outC T.cells p)[i]? = some c → c.slot = k ∧ verAt T.cells k = c.ver := by
  obtain ⟨k, hk⟩ : ∃ k, p[i]? = some k := ⟨_, List.getElem?_eq_getElem hi⟩
  refine ⟨k, hk, fun c h => ?_⟩
  have hlt := hp k (List.mem_of_getElem? hk)
  unfold outC at h
  rw [List.getElem?_map, hk] at h
  obtain rfl := Option.some.inj h
  obtain ⟨d, hd⟩ : ∃ d, T.cells[k]? = some d := ⟨_, List.getElem?_eq_getElem (by rw [hO.len]; exact hlt)⟩
  rw [cellAt_of hd, verAt_of hd]
  exact ⟨hO.slot k d hd, rfl⟩
section
variable {w : World} {bt g c bl gl cl : Nat} {T : MirS} {X : TelS}
def refH (bt bl gl cl bk ck : Nat) (X : TelS) (ov : Value) (l : List CellS) (p : List Nat) : List Ent :=
  [blk bl 244 [.pointer (some ⟨bt, 0, none⟩), .slice (some ⟨gl, 0, none⟩) 32 cl, .int .i64 (X.cursor : Int)], ownL 3 1 encI (.slice (some ⟨gl, 0, none⟩) 32 cl) X.told, ownL 59 10 encCell ov (outC l p), ownL 4 1 encBo (.slice (some ⟨bk, 0, none⟩) 32 ck) (takL p)]
theorem rlNext_ok (hT : (refT bt g c T).holds w) (hL : (refL bt bl gl cl X).holds w) (hap : ∀ b ∈ [bt, g], ¬ (b = bl ∨ b = gl)) {n : Nat} (hO : TOk n T) (ht : X.told.length = 32) (hc : X.cursor < 32) :
    CallC Tryz.prog 170 #[.pointer (some ⟨bl, 0, none⟩)] w fun v w' => (∃ a' c', v = .slice a' (X.picks T.cells).length c') ∧ Ext (fun b => b = bl ∨ b = gl) w w' ∧ (refL bt bl gl cl (X.next T.cells)).holds w' ∧ (ownL 59 10 encCell v (outC T.cells (X.picks T.cells))).holds w' ∧ Fresh w w' v := by
  have hl := hO.len
  have htb : ¬ (bt = bl ∨ bt = gl) := hap bt (by simp)
  have htg : ¬ (g = bl ∨ g = gl) := hap g (by simp)
  have hbl := hL.2.1.lt
  have hgl : gl < w.heap.size := ownB_lt hL.2.2 rfl
  obtain ⟨hL1, hL2, hL3⟩ := hL
  obtain ⟨z2, hz2⟩ : ∃ z2, stage2 32 X.cursor (pick1 T.cells X.told 32) = z2 := ⟨_, rfl⟩
  have hpk : X.picks T.cells = z2.2 := congrArg Prod.snd hz2
  have hnx : X.next T.cells = ⟨tellAll T.cells X.told (X.picks T.cells), z2.1⟩ := by rw [← hz2]; rfl
  refine fn_intro tabOk Tryz.func170 (by kernel_rfl) rfl Tryz.ntmps170 (Nat.le_of_ble_eq_true rfl) ?_
  have hS := (St.start w (fun b => b = bl ∨ b = gl)).add (blk_local bl _ _) hL2 (by simp [blk]; exact hbl) (by simp)
  have hS := hS.add ownL_local hL3 (by simp [ownL, own, Value.ownBlock]; exact hgl) (by simp [ownL, own, Value.ownBlock, blk]; exact fun e => hL1 e)
  have hS := hS.add (ownL_local (e := 59) (enc := encCell) (sz := 10) (v := .slice none 0 0) (xs := [])) (own_nil _ _ _) (by simp [ownL, own, Value.ownBlock]) (by simp [ownL, own, Value.ownBlock])
  (conv => whnf)
  refine hS.mkSlice (n := 32) Tryz.underlying291 (sz := 1) (bytes := 1) (by kernel_rfl) (z := .bool false) (by kernel_rfl) (by decide) (by decide) (by decide) (enc := encBo) (xs := takL []) (by simp [takL]) (by kernel_rfl) (fun bk w' hbk hS => ?_)
  replace hS : St w (fun b => b = bl ∨ b = gl) w' (refH bt bl gl cl bk 32 X (.slice none 0 0) T.cells (pick1 T.cells X.told 0)) := hS
  (conv => whnf)
  refine loopR tabOk (fun σ w' q => ∃ (i : Nat) (ov : Value), σ = [(5, .int .i64 i), (4, .slice (some ⟨bk, 0, none⟩) 32 32), (3, ov), (0, .pointer (some ⟨bl, 0, none⟩))] ∧ q = 32 - i ∧ i ≤ 32 ∧ (∃ a' c', ov = .slice a' (pick1 T.cells X.told i).length c') ∧ St w (fun b => b = bl ∨ b = gl) w' (refH bt bl gl cl bk 32 X ov T.cells (pick1 T.cells X.told i)))
    (σ' := [(5, .int .i64 ((0 : Nat) : Int)), (4, .slice (some ⟨bk, 0, none⟩) 32 32), (3, .slice none 0 0), (0, .pointer (some ⟨bl, 0, none⟩))]) (n := 32) ⟨rfl, rfl, rfl, rfl, trivial⟩ ⟨0, _, rfl, rfl, Nat.zero_le _, ⟨none, 0, rfl⟩, hS⟩ ?_
  clear hS
  rintro _ w1 q ⟨k, _, rfl, rfl, hk, ⟨a', c', rfl⟩, hS⟩
  have hp8 := pick1_len T.cells X.told k
  have hps := pick1_succ T.cells X.told k
  unfold refH at hS
  (conv => whnf)
  refine brD (fun h3 => ?_) (fun h3 => ?_)
  · have hk : k < 32 := by omega
    (conv => whnf)
    refine brD (fun h4 => ?_) (fun h4 => ?_)
    · obtain ⟨x, hx⟩ : ∃ x, T.cells[k]? = some x := ⟨_, List.getElem?_eq_getElem (by omega)⟩
      obtain ⟨u, hu⟩ : ∃ u, X.told[k]? = some u := ⟨_, List.getElem?_eq_getElem (by omega)⟩
      have hcell := cellAt_of hx
      have hlb : lagB T.cells X.told k = decide (x.ver ≠ u) := by unfold lagB; rw [verAt_of hx, toldAt_of hu]
      have hcv : w.cell? ⟨g, 0 + Int.toNat (k : Int) * 10 + 1, none⟩ = some (.int .i64 x.ver) := by rw [Nat.zero_add]; exact (refT_at hT hx).one 1 rfl
      have hcx : CellsAt w g (0 + Int.toNat (k : Int) * 10) (encCell x) := by rw [Nat.zero_add]; exact refT_at hT hx
      generalize pick1 T.cells X.told k = p at hS hp8 hps h4
      (conv => whnf)
      (refine drawS tabOk mixed [] No [0, 1, 2, 3, 4, 5, 6, 7, 8, 9, 10, 11, 12, 13, 14, 15, 16, 17, 18] (by kernel_rfl) ?_; rintro w1 rfl; replace hS := hS.drew)
      obtain ⟨bu, ou, u', hu', _, eu, _, hcu⟩ := (ownL_slc (G := fun _ => True) codInt (hS.get 1 rfl) fun _ _ => trivial).at hk
      cases eu
      obtain rfl := Option.some.inj (hu'.symm.trans hu)
      repeat' ((conv => whnf); first | refine RetC.mk ?_ | refine NzC.mk (by decide) ?_ | refine RngC.mk (by omega) (by omega) ?_ | refine IdxC.mk (by omega) (by omega) ?_ | refine IdxC.mk (by omega) (by omega) ?_ | refine hS.ldF 0 rfl rfl id ?_ | refine hS.ldrF (refT_l hT) htb id ?_ | refine hS.ldrF hcv htg id ?_ | refine ldFc (hcu.one 0 rfl) id ?_ | refine brD (fun _ => ?_) (fun _ => ?_) | refine brND (fun _ => ?_) (fun _ => ?_) | refine brN (fun _ => ?_) (fun _ => ?_) | refine brI (fun _ => ?_) (fun _ => ?_))
      · rename_i h5
        rw [if_pos ⟨by rw [hlb]; exact decide_eq_true h5, by omega⟩] at hps
        repeat' ((conv => whnf); first | refine RetC.mk ?_ | refine NzC.mk (by decide) ?_ | refine RngC.mk (by omega) (by omega) ?_ | refine IdxC.mk (by omega) (by omega) ?_ | refine IdxC.mk (by omega) (by omega) ?_ | refine hS.ld 0 rfl rfl ?_ | refine hS.ldr (refT_l hT) htb ?_ | refine hS.lar (l := encCell x) rfl hcx htg ?_ | refine brD (fun _ => ?_) (fun _ => ?_) | refine brND (fun _ => ?_) (fun _ => ?_) | refine brN (fun _ => ?_) (fun _ => ?_) | refine brI (fun _ => ?_) (fun _ => ?_))
        refine hS.lit (cs := encCell x) Tryz.underlying54 (sz := 10) (by kernel_rfl) (z := .agg (encCell ⟨0, 0, noFlow⟩).toArray) (by kernel_rfl) rfl rfl (by rfl) (fun bz w' hbz hS => ?_)
        (conv => whnf)
        refine hS.appS codCell 2 (ys := [x]) (G := fun _ => True) Tryz.underlying54 (bytes := 80) (by kernel_rfl) (z := .agg (encCell ⟨0, 0, noFlow⟩).toArray) (by kernel_rfl) rfl rfl (Slc.of_blk codCell (hS.blk 4 rfl) rfl (by simp) (fun _ _ => trivial) rfl) (by unfold maxLen; rw [outC_len]; omega) (by rw [outC_len]; omega) (fun a2 c2 w' hS => ?_)
        replace hS := hS.keep 4
        have hoc : outC T.cells p ++ [x] = outC T.cells (p ++ [k]) := by simp [outC, hcell]
        rw [outC_len, hoc] at hS
        rw [outC_len]
        (conv => whnf)
        refine IdxC.mk (by omega) (by omega) ?_
        (conv => whnf)
        refine hS.setL codBo 3 (k := k) (x := true) rfl (takL_at (by omega)) (by simp) rfl (fun w' _ hS => ?_)
        replace hS : St w (fun b => b = bl ∨ b = gl) w' [_, _, _, ownL 4 1 encBo (.slice (some ⟨bk, 0, none⟩) 32 32) ((takL p).set k true)] := hS
        rw [takL_set (by omega)] at hS
        have hq : p.length + 1 = (pick1 T.cells X.told (k + 1)).length := by rw [hps]; simp
        rw [hq, ← hps] at hS
        rw [hq]
        (conv => whnf)
        refine RngC.mk (by omega) (by omega) ?_
        (conv => whnf)
        refine LoopE.mk ⟨_, [(5, .int .i64 ((k + 1 : Nat) : Int)), (4, _), (3, _), (0, _)], ?_, ⟨rfl, rfl, rfl, rfl, trivial⟩, ⟨k + 1, _, rfl, rfl, by omega, ⟨a2, c2, rfl⟩, hS⟩⟩
        omega
      · rename_i h5
        rw [if_neg (fun h => by rw [hlb] at h; exact of_decide_eq_true h.1 h5)] at hps
        rw [← hps] at hS ⊢
        refine LoopE.mk ⟨_, [(5, .int .i64 ((k + 1 : Nat) : Int)), (4, _), (3, _), (0, _)], ?_, ⟨rfl, rfl, rfl, rfl, trivial⟩, ⟨k + 1, _, rfl, rfl, by omega, ⟨a', c', rfl⟩, hS⟩⟩
        omega
    · have h32 : pick1 T.cells X.told 32 = pick1 T.cells X.told k := by
        have := pick1_full (l := T.cells) (t := X.told) (k := k) (by omega) (32 - k)
        rwa [show k + (32 - k) = 32 by omega] at this
      rw [← h32] at hS ⊢
      have hp32 := pick1_len T.cells X.told 32
      have hsw : Swept X.cursor 0 X.cursor (pick1 T.cells X.told 32) := ⟨by omega, fun i hi => absurd hi (Nat.not_lt_zero _)⟩
      (conv => whnf)
      refine loopR tabOk (fun σ w' q => ∃ (j cu : Nat) (p : List Nat) (ov : Value), σ = [(4, .slice (some ⟨bk, 0, none⟩) 32 32), (3, ov), (0, .pointer (some ⟨bl, 0, none⟩))] ∧ q = 32 - j ∧ p.length ≤ 8 ∧ cu < 32 ∧ Swept X.cursor j cu p ∧ stage2 (32 - j) cu p = z2 ∧ (∃ a' c', ov = .slice a' p.length c') ∧ St w (fun b => b = bl ∨ b = gl) w' (refH bt bl gl cl bk 32 ⟨X.told, cu⟩ ov T.cells p))
        (σ' := [(4, .slice (some ⟨bk, 0, none⟩) 32 32), (3, .slice a' (pick1 T.cells X.told 32).length c'), (0, .pointer (some ⟨bl, 0, none⟩))]) (n := 32) ⟨rfl, rfl, rfl, trivial⟩ ⟨0, X.cursor, pick1 T.cells X.told 32, _, rfl, rfl, hp32, hc, hsw, hz2, ⟨a', c', rfl⟩, hS⟩ ?_
      clear hS hp32 hsw hp8 hps
      rintro _ w1 q ⟨j, cu, p, _, rfl, rfl, hp8, hcu, hsw, hs2, ⟨a', c', rfl⟩, hS⟩
      unfold refH at hS
      dsimp only at hS
      (conv => whnf)
      refine brD (fun h5 => ?_) (fun h5 => ?_)
      · have h8 : p.length < 8 := by omega
        have hj := hsw.few hc h8
        have hstep := hsw.step
        rw [show 32 - j = (32 - (j + 1)) + 1 by omega, stage2_step h8] at hs2
        obtain ⟨by_, oy, y, hy, _, ey, _, hcy⟩ := (ownL_slc (G := fun _ => True) codBo (hS.get 3 rfl) fun _ _ => trivial).at hcu
        cases ey
        obtain rfl := Option.some.inj (hy.symm.trans (takL_at hcu))
        (conv => whnf)
        refine hS.ld 0 rfl rfl ?_
        (conv => whnf)
        refine IdxC.mk (by omega) (by omega) ?_
        (conv => whnf)
        refine ldc (hcy.one 0 rfl) ?_
        by_cases hcp : cu ∈ p
        · rw [decide_eq_true hcp]
          rw [if_pos hcp] at hs2 hstep
          (conv => whnf)
          refine RngC.mk (by omega) (by omega) ?_
          (conv => whnf)
          refine hS.st 0 rfl (Nat.le_of_ble_eq_true rfl) rfl (fun w' hS => ?_)
          replace hS : St w (fun b => b = bl ∨ b = gl) w' [blk bl 244 [.pointer (some ⟨bt, 0, none⟩), .slice (some ⟨gl, 0, none⟩) 32 cl, .int .i64 ((cu : Int) + 1)], ownL 3 1 encI (.slice (some ⟨gl, 0, none⟩) 32 cl) X.told, ownL 59 10 encCell (.slice a' p.length c') (outC T.cells p), ownL 4 1 encBo (.slice (some ⟨bk, 0, none⟩) 32 32) (takL p)] := hS
          (conv => whnf)
          refine hS.ld 0 rfl rfl ?_
          (conv => whnf)
          refine brD (fun h7 => ?_) (fun h7 => ?_)
          · have hc0 : (cu + 1) % 32 = 0 := by omega
            rw [hc0] at hs2 hstep
            (conv => whnf)
            refine hS.st 0 rfl (Nat.le_of_ble_eq_true rfl) rfl (fun w' hS => ?_)
            (conv => whnf)
            refine LoopE.mk ⟨_, [(4, _), (3, _), (0, _)], ?_, ⟨rfl, rfl, rfl, trivial⟩, ⟨j + 1, 0, p, _, rfl, rfl, hp8, by omega, hstep, hs2, ⟨a', c', rfl⟩, hS⟩⟩
            omega
          · have hc0 : (cu + 1) % 32 = cu + 1 := by omega
            rw [hc0] at hs2 hstep
            (conv => whnf)
            refine LoopE.mk ⟨_, [(4, _), (3, _), (0, _)], ?_, ⟨rfl, rfl, rfl, trivial⟩, ⟨j + 1, cu + 1, p, _, rfl, rfl, hp8, by omega, hstep, hs2, ⟨a', c', rfl⟩, hS⟩⟩
            omega
        · rw [decide_eq_false hcp]
          rw [if_neg hcp] at hs2 hstep
          have hp9 : (p ++ [cu]).length ≤ 8 := by simp; omega
          obtain ⟨x, hx⟩ : ∃ x, T.cells[cu]? = some x := ⟨_, List.getElem?_eq_getElem (by omega)⟩
          have hcell := cellAt_of hx
          have hcx : CellsAt w g (0 + Int.toNat (cu : Int) * 10) (encCell x) := by rw [Nat.zero_add]; exact refT_at hT hx
          (conv => whnf)
          repeat' ((conv => whnf); first | refine RetC.mk ?_ | refine NzC.mk (by decide) ?_ | refine RngC.mk (by omega) (by omega) ?_ | refine IdxC.mk (by omega) (by omega) ?_ | refine IdxC.mk (by omega) (by omega) ?_ | refine hS.ld 0 rfl rfl ?_ | refine hS.ldr (refT_l hT) htb ?_ | refine hS.lar (l := encCell x) rfl hcx htg ?_ | refine brD (fun _ => ?_) (fun _ => ?_) | refine brND (fun _ => ?_) (fun _ => ?_) | refine brN (fun _ => ?_) (fun _ => ?_) | refine brI (fun _ => ?_) (fun _ => ?_))
          refine hS.lit (cs := encCell x) Tryz.underlying54 (sz := 10) (by kernel_rfl) (z := .agg (encCell ⟨0, 0, noFlow⟩).toArray) (by kernel_rfl) rfl rfl (by rfl) (fun bz w' hbz hS => ?_)
          (conv => whnf)
          refine hS.appS codCell 2 (ys := [x]) (G := fun _ => True) Tryz.underlying54 (bytes := 80) (by kernel_rfl) (z := .agg (encCell ⟨0, 0, noFlow⟩).toArray) (by kernel_rfl) rfl rfl (Slc.of_blk codCell (hS.blk 4 rfl) rfl (by simp) (fun _ _ => trivial) rfl) (by unfold maxLen; rw [outC_len]; omega) (by rw [outC_len]; omega) (fun a2 c2 w' hS => ?_)
          replace hS := hS.keep 4
          have hoc : outC T.cells p ++ [x] = outC T.cells (p ++ [cu]) := by simp [outC, hcell]
          rw [outC_len, hoc] at hS
          rw [outC_len]
          (conv => whnf)
          refine IdxC.mk (by omega) (by omega) ?_
          (conv => whnf)
          refine hS.setL codBo 3 (k := cu) (x := true) rfl (takL_at (by omega)) (by simp) rfl (fun w' _ hS => ?_)
          replace hS : St w (fun b => b = bl ∨ b = gl) w' [_, _, _, ownL 4 1 encBo (.slice (some ⟨bk, 0, none⟩) 32 32) ((takL p).set cu true)] := hS
          rw [takL_set (by omega)] at hS
          have hq : p.length + 1 = (p ++ [cu]).length := by simp
          rw [hq] at hS ⊢
          (conv => whnf)
          refine RngC.mk (by omega) (by omega) ?_
          (conv => whnf)
          refine hS.st 0 rfl (Nat.le_of_ble_eq_true rfl) rfl (fun w' hS => ?_)
          replace hS : St w (fun b => b = bl ∨ b = gl) w' [blk bl 244 [.pointer (some ⟨bt, 0, none⟩), .slice (some ⟨gl, 0, none⟩) 32 cl, .int .i64 ((cu : Int) + 1)], ownL 3 1 encI (.slice (some ⟨gl, 0, none⟩) 32 cl) X.told, ownL 59 10 encCell (.slice a2 (p ++ [cu]).length c2) (outC T.cells (p ++ [cu])), ownL 4 1 encBo (.slice (some ⟨bk, 0, none⟩) 32 32) (takL (p ++ [cu]))] := hS
          (conv => whnf)
          refine hS.ld 0 rfl rfl ?_
          (conv => whnf)
          refine brD (fun h7 => ?_) (fun h7 => ?_)
          · have hc0 : (cu + 1) % 32 = 0 := by omega
            rw [hc0] at hs2 hstep
            (conv => whnf)
            refine hS.st 0 rfl (Nat.le_of_ble_eq_true rfl) rfl (fun w' hS => ?_)
            (conv => whnf)
            refine LoopE.mk ⟨_, [(4, _), (3, _), (0, _)], ?_, ⟨rfl, rfl, rfl, trivial⟩, ⟨j + 1, 0, (p ++ [cu]), _, rfl, rfl, hp9, by omega, hstep, hs2, ⟨a2, c2, rfl⟩, hS⟩⟩
            omega
          · have hc0 : (cu + 1) % 32 = cu + 1 := by omega
            rw [hc0] at hs2 hstep
            (conv => whnf)
            refine LoopE.mk ⟨_, [(4, _), (3, _), (0, _)], ?_, ⟨rfl, rfl, rfl, trivial⟩, ⟨j + 1, cu + 1, (p ++ [cu]), _, rfl, rfl, hp9, by omega, hstep, hs2, ⟨a2, c2, rfl⟩, hS⟩⟩
            omega
      · have h8 : ¬ p.length < 8 := by omega
        rw [stage2_done h8] at hs2
        obtain rfl : X.picks T.cells = p := by rw [hpk, ← hs2]
        have hcz : (X.next T.cells).cursor = cu := by rw [hnx, ← hs2]
        have hP := picks_law T.cells hc
        have hlt := hP.lt
        have hpl := hP.len
        have hnt : (X.next T.cells).told = tellAll T.cells X.told (X.picks T.cells) := rfl
        have hnx2 : X.next T.cells = ⟨tellAll T.cells X.told (X.picks T.cells), cu⟩ := by rw [hnx, ← hs2]
        rw [hnx2]
        generalize X.picks T.cells = p at *
        (conv => whnf)
        refine loopR tabOk (fun σ w' q => ∃ i : Nat, σ = [(7, .int .i64 i), (3, .slice a' p.length c'), (0, .pointer (some ⟨bl, 0, none⟩))] ∧ q = 8 - i ∧ i ≤ 8 ∧ St w (fun b => b = bl ∨ b = gl) w' (refH bt bl gl cl bk 32 ⟨tellAll T.cells X.told (p.take i), cu⟩ (.slice a' p.length c') T.cells p))
          (σ' := [(7, .int .i64 ((0 : Nat) : Int)), (3, .slice a' p.length c'), (0, .pointer (some ⟨bl, 0, none⟩))]) (n := 8) ⟨rfl, rfl, rfl, trivial⟩ ⟨0, rfl, rfl, Nat.zero_le _, hS⟩ ?_
        clear hS
        rintro _ w1 q ⟨i, rfl, rfl, hi, hS⟩
        unfold refH at hS
        dsimp only at hS
        (conv => whnf)
        refine brD (fun h6 => ?_) (fun h6 => ?_)
        · have hi8 : i < p.length := by omega
          obtain ⟨k, hk, hok⟩ := out_at hO hlt hi8
          have hk32 := hlt k (List.mem_of_getElem? hk)
          have hlen := (tellAll_len T.cells (p.take i) X.told).trans ht
          obtain ⟨u, hu⟩ : ∃ u, (tellAll T.cells X.told (p.take i))[k]? = some u := ⟨_, List.getElem?_eq_getElem (by omega)⟩
          have hstep : (tellAll T.cells X.told (p.take i)).set k (verAt T.cells k) = tellAll T.cells X.told (p.take (i + 1)) := by
            rw [List.take_add_one, hk]
            exact (tellAll_app _ _ _ _).symm
          (conv => whnf)
          (refine drawS tabOk mixed [] ((· = gl)) [0, 1, 2, 3, 4, 5, 6, 7, 8, 9, 10, 11, 12, 13, 14, 15] (by kernel_rfl) ?_; rintro w1 rfl; replace hS := hS.drew)
          obtain ⟨bo, oo, x, hx, _, rfl, _, hcx⟩ := (ownL_slc (G := fun _ => True) codCell (hS.get 2 rfl) fun _ _ => trivial).at (k := i) hi8
          obtain ⟨hx1, hx2⟩ := hok x hx
          rw [hx2] at hstep
          have hbo : ¬ bo = gl := by
            rintro rfl
            have := pairwise_at apart_symm hS.apart (i := 1) (j := 2) rfl rfl (by decide) bo (by simp [ownL, own, Value.ownBlock])
            simp [ownL, own, Value.ownBlock] at this
          repeat' ((conv => whnf); first | refine IdxC.mk (by omega) (by omega) ?_ | refine hS.ldF 0 rfl rfl hL1 ?_ | refine ldFc (hcx.one 0 rfl) hbo ?_ | refine ldFc (hcx.one 1 rfl) hbo ?_)
          (conv => whnf)
          refine hS.setL codInt 1 (k := k) (x := x.ver) rfl hu (by omega) rfl (fun w' hx' hS => ?_)
          refine KeepC.mk hx' ?_
          replace hS : St w (fun b => b = bl ∨ b = gl) w' (refH bt bl gl cl bk 32 ⟨tellAll T.cells X.told (p.take (i + 1)), cu⟩ (.slice (some ⟨bo, oo, none⟩) p.length c') T.cells p) := by
            rw [← hstep]
            exact hS
          (conv => whnf)
          refine RngC.mk (by omega) (by omega) ?_
          (conv => whnf)
          refine LoopE.mk ⟨_, [(7, .int .i64 ((i + 1 : Nat) : Int)), (3, _), (0, _)], ?_, ⟨rfl, rfl, rfl, trivial⟩, ⟨i + 1, rfl, rfl, by omega, hS⟩⟩
          omega
        · obtain rfl : i = 8 := by omega
          rw [List.take_of_length_le (by omega)] at hS
          repeat' ((conv => whnf); first | refine RetC.mk ?_ | refine NzC.mk (by decide) ?_ | refine RngC.mk (by omega) (by omega) ?_ | refine IdxC.mk (by omega) (by omega) ?_ | refine brD (fun _ => ?_) (fun _ => ?_) | refine brND (fun _ => ?_) (fun _ => ?_) | refine brN (fun _ => ?_) (fun _ => ?_) | refine brI (fun _ => ?_) (fun _ => ?_))
          refine ⟨⟨a', c', rfl⟩, hS.ext, ⟨hL1, hS.blk 0 rfl, hS.get 1 rfl⟩, hS.get 2 rfl, fun q hq => ?_⟩
          obtain ⟨h1, h2⟩ := hS.may _ (List.mem_of_getElem? (i := 2) rfl) q (by simpa [ownL, own] using hq)
          refine ⟨h1.resolve_left ?_, h2⟩
          rintro (rfl | rfl)
          · exact hS.ownBNe 0 2 rfl rfl (by decide) hq
          · have := pairwise_at apart_symm hS.apart (i := 1) (j := 2) rfl rfl (by decide) q (by simp [ownL, own, Value.ownBlock])
            exact this (by simpa [ownL, own] using hq)
  · obtain rfl : k = 32 := by omega
    have hp32 := pick1_len T.cells X.told 32
    have hsw : Swept X.cursor 0 X.cursor (pick1 T.cells X.told 32) := ⟨by omega, fun i hi => absurd hi (Nat.not_lt_zero _)⟩
    (conv => whnf)
    refine loopR tabOk (fun σ w' q => ∃ (j cu : Nat) (p : List Nat) (ov : Value), σ = [(4, .slice (some ⟨bk, 0, none⟩) 32 32), (3, ov), (0, .pointer (some ⟨bl, 0, none⟩))] ∧ q = 32 - j ∧ p.length ≤ 8 ∧ cu < 32 ∧ Swept X.cursor j cu p ∧ stage2 (32 - j) cu p = z2 ∧ (∃ a' c', ov = .slice a' p.length c') ∧ St w (fun b => b = bl ∨ b = gl) w' (refH bt bl gl cl bk 32 ⟨X.told, cu⟩ ov T.cells p))
      (σ' := [(4, .slice (some ⟨bk, 0, none⟩) 32 32), (3, .slice a' (pick1 T.cells X.told 32).length c'), (0, .pointer (some ⟨bl, 0, none⟩))]) (n := 32) ⟨rfl, rfl, rfl, trivial⟩ ⟨0, X.cursor, pick1 T.cells X.told 32, _, rfl, rfl, hp32, hc, hsw, hz2, ⟨a', c', rfl⟩, hS⟩ ?_
    clear hS hp32 hsw hp8 hps
    rintro _ w1 q ⟨j, cu, p, _, rfl, rfl, hp8, hcu, hsw, hs2, ⟨a', c', rfl⟩, hS⟩
    unfold refH at hS
    dsimp only at hS
    (conv => whnf)
    refine brD (fun h5 => ?_) (fun h5 => ?_)
    · have h8 : p.length < 8 := by omega
      have hj := hsw.few hc h8
      have hstep := hsw.step
      rw [show 32 - j = (32 - (j + 1)) + 1 by omega, stage2_step h8] at hs2
      obtain ⟨by_, oy, y, hy, _, ey, _, hcy⟩ := (ownL_slc (G := fun _ => True) codBo (hS.get 3 rfl) fun _ _ => trivial).at hcu
      cases ey
      obtain rfl := Option.some.inj (hy.symm.trans (takL_at hcu))
      (conv => whnf)
      refine hS.ld 0 rfl rfl ?_
      (conv => whnf)
      refine IdxC.mk (by omega) (by omega) ?_
      (conv => whnf)
      refine ldc (hcy.one 0 rfl) ?_
      by_cases hcp : cu ∈ p
      · rw [decide_eq_true hcp]
        rw [if_pos hcp] at hs2 hstep
        (conv => whnf)
        refine RngC.mk (by omega) (by omega) ?_
        (conv => whnf)
        refine hS.st 0 rfl (Nat.le_of_ble_eq_true rfl) rfl (fun w' hS => ?_)
        replace hS : St w (fun b => b = bl ∨ b = gl) w' [blk bl 244 [.pointer (some ⟨bt, 0, none⟩), .slice (some ⟨gl, 0, none⟩) 32 cl, .int .i64 ((cu : Int) + 1)], ownL 3 1 encI (.slice (some ⟨gl, 0, none⟩) 32 cl) X.told, ownL 59 10 encCell (.slice a' p.length c') (outC T.cells p), ownL 4 1 encBo (.slice (some ⟨bk, 0, none⟩) 32 32) (takL p)] := hS
        (conv => whnf)
        refine hS.ld 0 rfl rfl ?_
        (conv => whnf)
        refine brD (fun h7 => ?_) (fun h7 => ?_)
        · have hc0 : (cu + 1) % 32 = 0 := by omega
          rw [hc0] at hs2 hstep
          (conv => whnf)
          refine hS.st 0 rfl (Nat.le_of_ble_eq_true rfl) rfl (fun w' hS => ?_)
          (conv => whnf)
          refine LoopE.mk ⟨_, [(4, _), (3, _), (0, _)], ?_, ⟨rfl, rfl, rfl, trivial⟩, ⟨j + 1, 0, p, _, rfl, rfl, hp8, by omega, hstep, hs2, ⟨a', c', rfl⟩, hS⟩⟩
          omega
        · have hc0 : (cu + 1) % 32 = cu + 1 := by omega
          rw [hc0] at hs2 hstep
          (conv => whnf)
          refine LoopE.mk ⟨_, [(4, _), (3, _), (0, _)], ?_, ⟨rfl, rfl, rfl, trivial⟩, ⟨j + 1, cu + 1, p, _, rfl, rfl, hp8, by omega, hstep, hs2, ⟨a', c', rfl⟩, hS⟩⟩
          omega
      · rw [decide_eq_false hcp]
        rw [if_neg hcp] at hs2 hstep
        have hp9 : (p ++ [cu]).length ≤ 8 := by simp; omega
        obtain ⟨x, hx⟩ : ∃ x, T.cells[cu]? = some x := ⟨_, List.getElem?_eq_getElem (by omega)⟩
        have hcell := cellAt_of hx
        have hcx : CellsAt w g (0 + Int.toNat (cu : Int) * 10) (encCell x) := by rw [Nat.zero_add]; exact refT_at hT hx
        (conv => whnf)
        repeat' ((conv => whnf); first | refine RetC.mk ?_ | refine NzC.mk (by decide) ?_ | refine RngC.mk (by omega) (by omega) ?_ | refine IdxC.mk (by omega) (by omega) ?_ | refine IdxC.mk (by omega) (by omega) ?_ | refine hS.ld 0 rfl rfl ?_ | refine hS.ldr (refT_l hT) htb ?_ | refine hS.lar (l := encCell x) rfl hcx htg ?_ | refine brD (fun _ => ?_) (fun _ => ?_) | refine brND (fun _ => ?_) (fun _ => ?_) | refine brN (fun _ => ?_) (fun _ => ?_) | refine brI (fun _ => ?_) (fun _ => ?_))
        refine hS.lit (cs := encCell x) Tryz.underlying54 (sz := 10) (by kernel_rfl) (z := .agg (encCell ⟨0, 0, noFlow⟩).toArray) (by kernel_rfl) rfl rfl (by rfl) (fun bz w' hbz hS => ?_)
        (conv => whnf)
        refine hS.appS codCell 2 (ys := [x]) (G := fun _ => True) Tryz.underlying54 (bytes := 80) (by kernel_rfl) (z := .agg (encCell ⟨0, 0, noFlow⟩).toArray) (by kernel_rfl) rfl rfl (Slc.of_blk codCell (hS.blk 4 rfl) rfl (by simp) (fun _ _ => trivial) rfl) (by unfold maxLen; rw [outC_len]; omega) (by rw [outC_len]; omega) (fun a2 c2 w' hS => ?_)
        replace hS := hS.keep 4
        have hoc : outC T.cells p ++ [x] = outC T.cells (p ++ [cu]) := by simp [outC, hcell]
        rw [outC_len, hoc] at hS
        rw [outC_len]
        (conv => whnf)
        refine IdxC.mk (by omega) (by omega) ?_
        (conv => whnf)
        refine hS.setL codBo 3 (k := cu) (x := true) rfl (takL_at (by omega)) (by simp) rfl (fun w' _ hS => ?_)
        replace hS : St w (fun b => b = bl ∨ b = gl) w' [_, _, _, ownL 4 1 encBo (.slice (some ⟨bk, 0, none⟩) 32 32) ((takL p).set cu true)] := hS
        rw [takL_set (by omega)] at hS
        have hq : p.length + 1 = (p ++ [cu]).length := by simp
        rw [hq] at hS ⊢
        (conv => whnf)
        refine RngC.mk (by omega) (by omega) ?_
        (conv => whnf)
        refine hS.st 0 rfl (Nat.le_of_ble_eq_true rfl) rfl (fun w' hS => ?_)
        replace hS : St w (fun b => b = bl ∨ b = gl) w' [blk bl 244 [.pointer (some ⟨bt, 0, none⟩), .slice (some ⟨gl, 0, none⟩) 32 cl, .int .i64 ((cu : Int) + 1)], ownL 3 1 encI (.slice (some ⟨gl, 0, none⟩) 32 cl) X.told, ownL 59 10 encCell (.slice a2 (p ++ [cu]).length c2) (outC T.cells (p ++ [cu])), ownL 4 1 encBo (.slice (some ⟨bk, 0, none⟩) 32 32) (takL (p ++ [cu]))] := hS
        (conv => whnf)
        refine hS.ld 0 rfl rfl ?_
        (conv => whnf)
        refine brD (fun h7 => ?_) (fun h7 => ?_)
        · have hc0 : (cu + 1) % 32 = 0 := by omega
          rw [hc0] at hs2 hstep
          (conv => whnf)
          refine hS.st 0 rfl (Nat.le_of_ble_eq_true rfl) rfl (fun w' hS => ?_)
          (conv => whnf)
          refine LoopE.mk ⟨_, [(4, _), (3, _), (0, _)], ?_, ⟨rfl, rfl, rfl, trivial⟩, ⟨j + 1, 0, (p ++ [cu]), _, rfl, rfl, hp9, by omega, hstep, hs2, ⟨a2, c2, rfl⟩, hS⟩⟩
          omega
        · have hc0 : (cu + 1) % 32 = cu + 1 := by omega
          rw [hc0] at hs2 hstep
          (conv => whnf)
          refine LoopE.mk ⟨_, [(4, _), (3, _), (0, _)], ?_, ⟨rfl, rfl, rfl, trivial⟩, ⟨j + 1, cu + 1, (p ++ [cu]), _, rfl, rfl, hp9, by omega, hstep, hs2, ⟨a2, c2, rfl⟩, hS⟩⟩
          omega
    · have h8 : ¬ p.length < 8 := by omega
      rw [stage2_done h8] at hs2
      obtain rfl : X.picks T.cells = p := by rw [hpk, ← hs2]
      have hcz : (X.next T.cells).cursor = cu := by rw [hnx, ← hs2]
      have hP := picks_law T.cells hc
      have hlt := hP.lt
      have hpl := hP.len
      have hnt : (X.next T.cells).told = tellAll T.cells X.told (X.picks T.cells) := rfl
      have hnx2 : X.next T.cells = ⟨tellAll T.cells X.told (X.picks T.cells), cu⟩ := by rw [hnx, ← hs2]
      rw [hnx2]
      generalize X.picks T.cells = p at *
      (conv => whnf)
      refine loopR tabOk (fun σ w' q => ∃ i : Nat, σ = [(7, .int .i64 i), (3, .slice a' p.length c'), (0, .pointer (some ⟨bl, 0, none⟩))] ∧ q = 8 - i ∧ i ≤ 8 ∧ St w (fun b => b = bl ∨ b = gl) w' (refH bt bl gl cl bk 32 ⟨tellAll T.cells X.told (p.take i), cu⟩ (.slice a' p.length c') T.cells p))
        (σ' := [(7, .int .i64 ((0 : Nat) : Int)), (3, .slice a' p.length c'), (0, .pointer (some ⟨bl, 0, none⟩))]) (n := 8) ⟨rfl, rfl, rfl, trivial⟩ ⟨0, rfl, rfl, Nat.zero_le _, hS⟩ ?_
      clear hS
      rintro _ w1 q ⟨i, rfl, rfl, hi, hS⟩
      unfold refH at hS
      dsimp only at hS
      (conv => whnf)
      refine brD (fun h6 => ?_) (fun h6 => ?_)
      · have hi8 : i < p.length := by omega
        obtain ⟨k, hk, hok⟩ := out_at hO hlt hi8
        have hk32 := hlt k (List.mem_of_getElem? hk)
        have hlen := (tellAll_len T.cells (p.take i) X.told).trans ht
        obtain ⟨u, hu⟩ : ∃ u, (tellAll T.cells X.told (p.take i))[k]? = some u := ⟨_, List.getElem?_eq_getElem (by omega)⟩
        have hstep : (tellAll T.cells X.told (p.take i)).set k (verAt T.cells k) = tellAll T.cells X.told (p.take (i + 1)) := by
          rw [List.take_add_one, hk]
          exact (tellAll_app _ _ _ _).symm
        (conv => whnf)
        (refine drawS tabOk mixed [] ((· = gl)) [0, 1, 2, 3, 4, 5, 6, 7, 8, 9, 10, 11, 12, 13, 14, 15] (by kernel_rfl) ?_; rintro w1 rfl; replace hS := hS.drew)
        obtain ⟨bo, oo, x, hx, _, rfl, _, hcx⟩ := (ownL_slc (G := fun _ => True) codCell (hS.get 2 rfl) fun _ _ => trivial).at (k := i) hi8
        obtain ⟨hx1, hx2⟩ := hok x hx
        rw [hx2] at hstep
        have hbo : ¬ bo = gl := by
          rintro rfl
          have := pairwise_at apart_symm hS.apart (i := 1) (j := 2) rfl rfl (by decide) bo (by simp [ownL, own, Value.ownBlock])
          simp [ownL, own, Value.ownBlock] at this
        repeat' ((conv => whnf); first | refine IdxC.mk (by omega) (by omega) ?_ | refine hS.ldF 0 rfl rfl hL1 ?_ | refine ldFc (hcx.one 0 rfl) hbo ?_ | refine ldFc (hcx.one 1 rfl) hbo ?_)
        (conv => whnf)
        refine hS.setL codInt 1 (k := k) (x := x.ver) rfl hu (by omega) rfl (fun w' hx' hS => ?_)
        refine KeepC.mk hx' ?_
        replace hS : St w (fun b => b = bl ∨ b = gl) w' (refH bt bl gl cl bk 32 ⟨tellAll T.cells X.told (p.take (i + 1)), cu⟩ (.slice (some ⟨bo, oo, none⟩) p.length c') T.cells p) := by
          rw [← hstep]
          exact hS
        (conv => whnf)
        refine RngC.mk (by omega) (by omega) ?_
        (conv => whnf)
        refine LoopE.mk ⟨_, [(7, .int .i64 ((i + 1 : Nat) : Int)), (3, _), (0, _)], ?_, ⟨rfl, rfl, rfl, trivial⟩, ⟨i + 1, rfl, rfl, by omega, hS⟩⟩
        omega
      · obtain rfl : i = 8 := by omega
        rw [List.take_of_length_le (by omega)] at hS
        repeat' ((conv => whnf); first | refine RetC.mk ?_ | refine NzC.mk (by decide) ?_ | refine RngC.mk (by omega) (by omega) ?_ | refine IdxC.mk (by omega) (by omega) ?_ | refine brD (fun _ => ?_) (fun _ => ?_) | refine brND (fun _ => ?_) (fun _ => ?_) | refine brN (fun _ => ?_) (fun _ => ?_) | refine brI (fun _ => ?_) (fun _ => ?_))
        refine ⟨⟨a', c', rfl⟩, hS.ext, ⟨hL1, hS.blk 0 rfl, hS.get 1 rfl⟩, hS.get 2 rfl, fun q hq => ?_⟩
        obtain ⟨h1, h2⟩ := hS.may _ (List.mem_of_getElem? (i := 2) rfl) q (by simpa [ownL, own] using hq)
        refine ⟨h1.resolve_left ?_, h2⟩
        rintro (rfl | rfl)
        · exact hS.ownBNe 0 2 rfl rfl (by decide) hq
        · have := pairwise_at apart_symm hS.apart (i := 1) (j := 2) rfl rfl (by decide) q (by simp [ownL, own, Value.ownBlock])
          exact this (by simpa [ownL, own] using hq)
end
end Go.Proofs.YtoaghhcjlfiflaaGreatDoor

namespace Go.Proofs.YtoaghhcjlfiflaaGreatDoor
open Go Ev Go.Instr

theorem ck (e : Bool) (a b : Int) (w : World) : (checkKey e 10000 274 (.agg #[.int .i64 a, .int .i64 b])).run Tryz.prog w = .ok () w := by cases e <;> kernel_rfl

theorem run_int (d : Nat) (a b : Int) (w : World) : (Op.equalIn (d + 1) 3 (.int .i64 a) (.int .i64 b)).run Tryz.prog w = .ok (a == b) w := by
  have hu := Tryz.underlying3
  simp [Op.equalIn, underlying, hu]
theorem part_k (i : Nat) (a b : Int) (v : Value) (h : [Value.int .i64 a, Value.int .i64 b][i]? = some v) (w : World) : (part 3 #[.int .i64 a, .int .i64 b] i).run Tryz.prog w = .ok v w :=
  part_run1 (cs := [.int .i64 a, .int .i64 b]) ⟨_, Tryz.underlying3⟩ h (by kernel_rfl) w
theorem eqKey (a b c d : Int) (w : World) : (Op.equalIn 10000 274 (.agg #[.int .i64 a, .int .i64 b]) (.agg #[.int .i64 c, .int .i64 d])).run Tryz.prog w = .ok (a == c && b == d) w := by
  have hS : Tryz.prog.underlying 274 = some (.struct (Tryz.prog.fieldsOf 274)) := by kernel_rfl
  rw [show (10000 : Nat) = 9999 + 1 from rfl, run_equalIn_struct w 9999 274 _ _ hS (by kernel_rfl)]
  simp only [Program.fieldsOf, Tryz.underlying274]
  have p0 := part_k 0 a b (.int .i64 a) rfl
  have p1 := part_k 1 a b (.int .i64 b) rfl
  have q0 := part_k 0 c d (.int .i64 c) rfl
  have q1 := part_k 1 c d (.int .i64 d) rfl
  have r : ∀ x y w, (Op.equalIn 9999 3 (.int .i64 x) (.int .i64 y)).run Tryz.prog w = .ok (x == y) w := fun x y w => run_int 9998 x y w
  simp only [Op.eqFields, show ("proto" : String) ≠ "_" by decide, show ("state" : String) ≠ "_" by decide, ne_eq, not_false_eq_true, if_true, Sem.run_bind, p0, p1, q0, q1, Result.andThen_ok, r]
  cases h1 : a == c <;> cases h2 : b == d <;> simp [Sem.run_bind, p0, p1, q0, q1, r, h2]

def kEnt (k : (Int × Int × Int) × Nat) : MapEntry := ⟨.agg #[.int .i64 k.1.1, .int .i64 k.1.2.1], .int .i64 k.1.2.2, k.2⟩
def kFind (p s : Int) : List ((Int × Int × Int) × Nat) → Nat → Option (Nat × Value)
  | [], _ => none
  | ((a, b, v), _) :: r, n => match p == a && s == b with | true => some (n, .int .i64 v) | false => kFind p s r (n + 1)
def kLook (p s : Int) : List ((Int × Int × Int) × Nat) → Int
  | [] => 0
  | ((a, b, v), _) :: r => if p = a ∧ s = b then v else kLook p s r
def kObj (l : List ((Int × Int × Int) × Nat)) (c : Nat) : Obj := .map (l.map kEnt).toArray c

theorem kFind_look (p s : Int) : ∀ (l : List ((Int × Int × Int) × Nat)) (n : Nat), kFind p s l n = none ∧ kLook p s l = 0 ∨ ∃ i, kFind p s l n = some (i, .int .i64 (kLook p s l))
  | [], n => .inl ⟨rfl, rfl⟩
  | ((a, b, v), c) :: r, n => by
    unfold kFind kLook
    cases h : p == a && s == b
    · rw [if_neg (by rintro ⟨rfl, rfl⟩; simp at h)]
      exact kFind_look p s r (n + 1)
    · rw [if_pos (by simpa using h)]
      exact .inr ⟨_, rfl⟩

theorem findAsking_k (p s : Int) (w : World) : ∀ (l : List ((Int × Int × Int) × Nat)) (n : Nat), (findAsking 274 (.agg #[.int .i64 p, .int .i64 s]) (l.map kEnt) n).run Tryz.prog w = .ok (kFind p s l n) w
  | [], n => rfl
  | ((a, b, v), c) :: r, n => by
    rw [List.map_cons, findAsking, Sem.run_bind]
    rw [show Op.equal 274 (.agg #[.int .i64 p, .int .i64 s]) (kEnt ((a, b, v), c)).key = Op.equalIn 10000 274 (.agg #[.int .i64 p, .int .i64 s]) (.agg #[.int .i64 a, .int .i64 b]) from rfl, eqKey, Result.andThen_ok]
    unfold kFind
    cases p == a && s == b
    · exact findAsking_k p s w r (n + 1)
    · rfl

theorem findKey_k (p s : Int) (w : World) (l : List ((Int × Int × Int) × Nat)) : (findKey 274 (.agg #[.int .i64 p, .int .i64 s]) (l.map kEnt)).run Tryz.prog w = .ok (kFind p s l 0) w := by
  have hu := Tryz.underlying274
  have h0 : (findKey 274 (.agg #[.int .i64 p, .int .i64 s]) (l.map kEnt)) = (do match findNow (← underlying 274) (.agg #[.int .i64 p, .int .i64 s]) (l.map kEnt) 0 with | some r => pure r | none => findAsking 274 (.agg #[.int .i64 p, .int .i64 s]) (l.map kEnt)) := rfl
  rw [h0, Sem.run_bind, run_underlying hu, Result.andThen_ok]
  cases l with
  | nil => rfl
  | cons x r =>
    obtain ⟨⟨a, b, v⟩, c⟩ := x
    exact findAsking_k p s w (((a, b, v), c) :: r) 0

theorem mapLook {r : Nat} {w : World} {l : List ((Int × Int × Int) × Nat)} {clock : Nat} (p s : Int) (hb : w.heap[r]? = some (kObj l clock)) :
    (Instr.lookup 271 (.map (some r)) (.agg #[.int .i64 p, .int .i64 s]) false).run Tryz.prog w = .ok (.int .i64 (kLook p s l)) w := by
  have hm := Tryz.underlying271
  have hg : (getObj r).run Tryz.prog w = .ok (kObj l clock) w := by simp [getObj, Sem.run, hb, kObj]
  have hz : (zeroValue 3).run Tryz.prog w = .ok (.int .i64 0) w := by kernel_rfl
  have hk := findKey_k p s w l
  unfold kObj at hg
  simp only [Instr.lookup, Sem.run_bind, run_underlying hm, Result.andThen_ok, hg, Sem.run_pure, ck, hk]
  rcases kFind_look p s l 0 with ⟨h1, h2⟩ | ⟨i, h1⟩
  · simp [h1, h2, hz, Sem.run_bind]
  · simp [h1]

theorem mapIns {r : Nat} {w : World} {l : List ((Int × Int × Int) × Nat)} {clock : Nat} (a b v : Int) (hb : w.heap[r]? = some (kObj l clock)) (hn : kFind a b l 0 = none) :
    (Instr.mapUpdate 271 (.map (some r)) (.agg #[.int .i64 a, .int .i64 b]) (.int .i64 v)).run Tryz.prog w = .ok () { w with heap := w.heap.setIfInBounds r (kObj (l ++ [((a, b, v), clock)]) (clock + 1)) } := by
  have hg : (getObj r).run Tryz.prog w = .ok (kObj l clock) w := by simp [getObj, Sem.run, hb, kObj]
  have hm := Tryz.underlying271
  unfold kObj at hg
  have hk := findKey_k a b w l
  rw [hn] at hk
  simp only [Instr.mapUpdate, Sem.run_bind, run_underlying hm, Result.andThen_ok, hg, ck, hk]
  simp [setObj, Sem.run, hb, kObj, kEnt]

def kmap (r : Nat) (l : List ((Int × Int × Int) × Nat)) (c : Nat) : Ent := ⟨[r], fun w => w.heap[r]? = some (kObj l c)⟩
theorem kmap_local (r : Nat) (l : List ((Int × Int × Int) × Nat)) (c : Nat) : (kmap r l c).Local := fun w w' h hb => by
  have := h r (by simp [kmap])
  simpa [kmap, this] using hb

theorem Ev.St.mkMap {w0 w : World} {H : List Ent} {k : Value → World → Prop} (h : St w0 No w H) (hk : ∀ r w', w0.heap.size ≤ r → St w0 No w' (H ++ [kmap r [] 0]) → k (.map (some r)) w') : RunC Tryz.prog (Instr.makeMap 271 none) w k := by
  refine ⟨.map (some w.heap.size), { w with heap := w.heap.push (.map #[] 0) }, rfl, hk _ _ h.ext.size (h.made ⟨rfl, rfl, rfl, by simp, fun i hi _ => ?_⟩ (kmap_local _ _ _) ?_ ?_)⟩
  · show (w.heap.push _)[i]? = _
    rw [Array.getElem?_push, if_neg (by omega)]
  · show (w.heap.push _)[w.heap.size]? = _
    rw [Array.getElem?_push, if_pos rfl]
    rfl
  · intro b hb
    obtain rfl : b = w.heap.size := by simpa [kmap] using hb
    simp
theorem Ev.St.ins {w0 w : World} {H : List Ent} (h : St w0 No w H) (i : Nat) {r : Nat} {l : List ((Int × Int × Int) × Nat)} {c : Nat} {a b v : Int} {k : World → Prop} (hi : H[i]? = some (kmap r l c)) (hn : kFind a b l 0 = none)
    (hk : ∀ w', Ext (· = r) w w' → St w0 No w' (H.set i (kmap r (l ++ [((a, b, v), c)]) (c + 1))) → k w') : RunU Tryz.prog (Instr.mapUpdate 271 (.map (some r)) (.agg #[.int .i64 a, .int .i64 b]) (.int .i64 v)) w k := by
  have hb : w.heap[r]? = some (kObj l c) := h.get i hi
  have hx : Ext (· = r) w { w with heap := w.heap.setIfInBounds r (kObj (l ++ [((a, b, v), c)]) (c + 1)) } := ⟨rfl, rfl, rfl, by simp, fun j hj hs => by
    have : r ≠ j := fun e => hs e.symm
    simp [this]⟩
  refine ⟨_, mapIns a b v hb hn, hk _ hx (h.upd i hi hx (fun d hd => by simp [kmap, hd]) (kmap_local _ _ _) ?_ fun d hd => .inl hd)⟩
  have := (Array.getElem?_eq_some_iff.1 hb).1
  show (w.heap.setIfInBounds r _)[r]? = _
  simp [this]

def timeS (p s : Int) : Int := if p = 1 then 60 else if p ≠ 2 then 0 else if s = 1 then 10 else if s = 2 then 100 else if s = 3 then 5 else 0
end Go.Proofs.YtoaghhcjlfiflaaGreatDoor

namespace Go.Proofs.YtoaghhcjlfiflaaGreatDoor
open Go Ev

def nextS (p s f : Int) (o : Bool) : Int × Bool :=
  if p ≠ 2 then (s, false) else if band f 8 ≠ 0 then (0, true) else if band f 4 ≠ 0 then (3, false)
  else if s = 1 ∧ o = false ∧ band f 1 ≠ 0 ∧ band f 2 ≠ 0 then (2, false) else (s, false)

theorem next_ok (p s f : Int) (o : Bool) (w : World) : CallC Tryz.prog 189 #[.int .i64 p, .int .i64 s, .int .i64 f, .bool o] w fun v w' => v = .tuple #[.int .i64 (nextS p s f o).1, .bool (nextS p s f o).2] ∧ w = w' := by
  refine fn_intro tabOk Tryz.func189 (by kernel_rfl) rfl Tryz.ntmps189 (Nat.le_of_ble_eq_true rfl) ?_
  repeat' ((conv => whnf); first | refine RetC.mk ?_ | refine NzC.mk (by decide) ?_ | refine RngC.mk (by omega) (by omega) ?_ | refine IdxC.mk (by omega) (by omega) ?_ | refine brD (fun _ => ?_) (fun _ => ?_) | refine brND (fun _ => ?_) (fun _ => ?_) | refine brN (fun _ => ?_) (fun _ => ?_) | refine brI (fun _ => ?_) (fun _ => ?_))
  all_goals simp_all [nextS]

def beginS (p f : Int) : Int × Nat :=
  if p ≠ 1 ∧ p ≠ 2 ∨ f < 0 ∨ 15 < f then (0, 2) else if p = 1 then (2, 0) else if f ≠ 1 then (0, 9) else (1, 0)
theorem beginS_code (p f : Int) : (beginS p f).2 < 12 := by
  unfold beginS
  repeat' split
  all_goals decide

theorem begin_ok {E : Nat → Addr} {n : Nat} (p f : Int) (w : World) (hE : Errs w E n [2, 9]) : CallC Tryz.prog 192 #[.int .i64 p, .int .i64 f] w fun v w' => v = .tuple #[.int .i64 (beginS p f).1, errV E (beginS p f).2] ∧ Ext No w w' := by
  refine fn_intro tabOk Tryz.func192 (by kernel_rfl) rfl Tryz.ntmps192 (Nat.le_of_ble_eq_true rfl) ?_
  have hS := St.start w No
  repeat' ((conv => whnf); first | refine RetC.mk ?_ | refine NzC.mk (by decide) ?_ | refine RngC.mk (by omega) (by omega) ?_ | refine IdxC.mk (by omega) (by omega) ?_ | refine hS.ldrF (hE.at_ 2 rfl) id id ?_ | refine hS.ldrF (hE.at_ 9 rfl) id id ?_ | (refine drawL tabOk mixed [] No [0, 1, 2] rfl (by kernel_rfl) ?_; rintro w1 rfl; replace hS := hS.drew) | refine brD (fun _ => ?_) (fun _ => ?_) | refine brND (fun _ => ?_) (fun _ => ?_) | refine brN (fun _ => ?_) (fun _ => ?_) | refine brI (fun _ => ?_) (fun _ => ?_))
  all_goals refine ⟨?_, hS.ext⟩
  all_goals clear hE hS
  all_goals unfold beginS
  all_goals ((repeat' split) <;> first | rfl | (exfalso; omega) | (simp_all [over, cellsL]; done) | (simp_all [over, cellsL]; omega) | trace_state)

theorem times_ok (w : World) : CallC Tryz.prog 198 #[] w fun v w' => ∃ r l c, v = .map (some r) ∧ Ext No w w' ∧ w'.heap[r]? = some (kObj l c) ∧ ∀ p s, p ≠ 1 → kLook p s l = timeS p s := by
  refine fn_intro tabOk Tryz.func198 (by kernel_rfl) rfl Tryz.ntmps198 (Nat.le_of_ble_eq_true rfl) ?_
  (conv => whnf)
  refine drawT tabOk mixed [] No (.take 1 (.take 3 (.take 5 (.alt 0
    (.alt 2 (.alt 4 (.alt 6 (.take 7 (.take 8 .fin)) .fin) (.alt 6 (.alt 4 (.take 7 (.take 8 .fin)) .fin) .fin))
    (.alt 4 (.alt 2 (.alt 6 (.take 7 (.take 8 .fin)) .fin) (.alt 6 (.alt 2 (.take 7 (.take 8 .fin)) .fin) .fin))
    (.alt 6 (.alt 2 (.alt 4 (.take 7 (.take 8 .fin)) .fin) (.alt 4 (.alt 2 (.take 7 (.take 8 .fin)) .fin) .fin)) .fin))) .fin)))) (by kernel_rfl) ?_
  intro w1 hw1
  have hS := St.start w1 No
  have hx0 : Ext No w w1 := by subst hw1; exact Ext.drawn _ _ _
  clear hw1
  repeat' ((conv => whnf); first | refine RetC.mk ?_ | refine And.intro ?_ ?_ | refine hS.mkMap (fun r w' hr hS => ?_) | refine hS.ins 0 rfl rfl (fun w' hx hS => ?_) | refine KeepC.mk hS.ext ?_)
  all_goals refine ⟨_, _, _, rfl, hx0.trans hS.ext, hS.get 0 rfl, fun p s hp => ?_⟩
  all_goals clear hS hx0
  all_goals simp only [List.nil_append, List.cons_append, kLook, timeS]
  all_goals (by_cases h2 : p = 2 <;> by_cases s1 : s = 1 <;> by_cases s2 : s = 2 <;> by_cases s3 : s = 3 <;> simp_all)

theorem time_ok (p s : Int) (w : World) : CallC Tryz.prog 148 #[.int .i64 p, .int .i64 s] w fun v w' => v = .int .i64 (timeS p s) ∧ Ext No w w' := by
  refine fn_intro tabOk Tryz.func148 (by kernel_rfl) rfl Tryz.ntmps148 (Nat.le_of_ble_eq_true rfl) ?_
  (conv => whnf)
  refine brD (fun h => ?_) (fun h => ?_)
  · repeat' ((conv => whnf); first | refine RetC.mk ?_ | refine NzC.mk (by decide) ?_ | refine RngC.mk (by omega) (by omega) ?_ | refine IdxC.mk (by omega) (by omega) ?_ | refine brD (fun _ => ?_) (fun _ => ?_) | refine brND (fun _ => ?_) (fun _ => ?_) | refine brN (fun _ => ?_) (fun _ => ?_) | refine brI (fun _ => ?_) (fun _ => ?_))
    exact ⟨by simp [timeS, h], Ext.refl _ _⟩
  · (conv => whnf)
    refine (times_ok w).mono ?_
    rintro v w' ⟨r, l, c, rfl, hx, hr, hk⟩
    (conv => whnf)
    refine ⟨_, _, mapLook p s hr, ?_⟩
    repeat' ((conv => whnf); first | refine RetC.mk ?_ | refine NzC.mk (by decide) ?_ | refine RngC.mk (by omega) (by omega) ?_ | refine IdxC.mk (by omega) (by omega) ?_ | refine brD (fun _ => ?_) (fun _ => ?_) | refine brND (fun _ => ?_) (fun _ => ?_) | refine brN (fun _ => ?_) (fun _ => ?_) | refine brI (fun _ => ?_) (fun _ => ?_))
    exact ⟨by rw [hk p s h], hx⟩

theorem band_bit (x : Int) (k : Nat) (hk : k < 4) : band x (2 ^ k : Nat) = 0 ∨ band x (2 ^ k : Nat) = (2 ^ k : Nat) := by
  have h1 : BitVec.ofInt 64 ((2 ^ k : Nat) : Int) = BitVec.twoPow 64 k := by
    match k, hk with
    | 0, _ | 1, _ | 2, _ | 3, _ => rfl
    | n + 4, h => omega
  unfold band
  rw [h1, BitVec.and_twoPow]
  split
  · right
    match k, hk with
    | 0, _ | 1, _ | 2, _ | 3, _ => rfl
    | n + 4, h => omega
  · left
    rfl
theorem bit_eq (x : Int) (k : Nat) (hk : k < 4) : (band x (2 ^ k : Nat) == ((2 ^ k : Nat) : Int)) = decide (band x (2 ^ k : Nat) ≠ 0) := by
  have h2 : ((2 ^ k : Nat) : Int) ≠ 0 := by
    match k, hk with
    | 0, _ | 1, _ | 2, _ | 3, _ => decide
    | n + 4, h => omega
  rcases band_bit x k hk with h | h
  · rw [h]; simpa using h2.symm
  · rw [h]; simpa using h2

theorem bit_ok (x y : Int) (w : World) : CallC Tryz.prog 216 #[.int .i64 x, .int .i64 y] w fun v w' => v = .bool (band x y == y) ∧ w = w' := by
  refine fn_intro tabOk Tryz.func216 (by kernel_rfl) rfl Tryz.ntmps216 (Nat.le_of_ble_eq_true rfl) ?_
  repeat' ((conv => whnf); first | refine RetC.mk ?_ | refine NzC.mk (by decide) ?_ | refine RngC.mk (by omega) (by omega) ?_ | refine IdxC.mk (by omega) (by omega) ?_ | refine brD (fun _ => ?_) (fun _ => ?_) | refine brND (fun _ => ?_) (fun _ => ?_) | refine brN (fun _ => ?_) (fun _ => ?_) | refine brI (fun _ => ?_) (fun _ => ?_))
  exact ⟨rfl, rfl⟩

theorem nextOf_ok (p s f : Int) (o : Bool) (w : World) : CallC Tryz.prog 208 #[.int .i64 p, .int .i64 s, .int .i64 f, .bool o] w fun v w' => v = .tuple #[.int .i64 (nextS p s f o).1, .bool (nextS p s f o).2] ∧ w = w' := by
  have b0 := bit_eq f 0 (by decide)
  have b1 := bit_eq f 1 (by decide)
  have b2 := bit_eq f 2 (by decide)
  have b3 := bit_eq f 3 (by decide)
  simp only [show ((2 ^ 0 : Nat) : Int) = 1 from rfl, show ((2 ^ 1 : Nat) : Int) = 2 from rfl, show ((2 ^ 2 : Nat) : Int) = 4 from rfl, show ((2 ^ 3 : Nat) : Int) = 8 from rfl] at b0 b1 b2 b3
  have c0 := bit_ok f 1 w
  have c1 := bit_ok f 2 w
  have c2 := bit_ok f 4 w
  have c3 := bit_ok f 8 w
  rw [b0] at c0
  rw [b1] at c1
  rw [b2] at c2
  rw [b3] at c3
  clear b0 b1 b2 b3
  refine fn_intro tabOk Tryz.func208 (by kernel_rfl) rfl Tryz.ntmps208 (Nat.le_of_ble_eq_true rfl) ?_
  repeat' ((conv => whnf); first | refine RetC.mk ?_ | refine NzC.mk (by decide) ?_ | refine RngC.mk (by omega) (by omega) ?_ | refine IdxC.mk (by omega) (by omega) ?_ | (refine c3.mono ?_; rintro v w' ⟨rfl, rfl⟩) | (refine c2.mono ?_; rintro v w' ⟨rfl, rfl⟩) | (refine c1.mono ?_; rintro v w' ⟨rfl, rfl⟩) | (refine c0.mono ?_; rintro v w' ⟨rfl, rfl⟩) | refine brD (fun _ => ?_) (fun _ => ?_) | refine brND (fun _ => ?_) (fun _ => ?_) | refine brN (fun _ => ?_) (fun _ => ?_) | refine brI (fun _ => ?_) (fun _ => ?_))
  all_goals simp_all [nextS]

theorem beginOf_ok (p f : Int) (w : World) : CallC Tryz.prog 175 #[.int .i64 p, .int .i64 f] w fun v w' => v = .tuple #[.int .i64 (beginS p f).1, .int .i64 (beginS p f).2] ∧ w = w' := by
  refine fn_intro tabOk Tryz.func175 (by kernel_rfl) rfl Tryz.ntmps175 (Nat.le_of_ble_eq_true rfl) ?_
  repeat' ((conv => whnf); first | refine RetC.mk ?_ | refine NzC.mk (by decide) ?_ | refine RngC.mk (by omega) (by omega) ?_ | refine IdxC.mk (by omega) (by omega) ?_ | refine brD (fun _ => ?_) (fun _ => ?_) | refine brND (fun _ => ?_) (fun _ => ?_) | refine brN (fun _ => ?_) (fun _ => ?_) | refine brI (fun _ => ?_) (fun _ => ?_))
  all_goals refine ⟨?_, rfl⟩
  all_goals unfold beginS
  all_goals ((repeat' split) <;> first | rfl | (exfalso; omega) | (simp_all [over, cellsL]; done) | (simp_all [over, cellsL]; omega) | trace_state)

theorem timeOf_ok (p s : Int) (w : World) : CallC Tryz.prog 168 #[.int .i64 p, .int .i64 s] w fun v w' => v = .int .i64 (timeS p s) ∧ w = w' := by
  refine fn_intro tabOk Tryz.func168 (by kernel_rfl) rfl Tryz.ntmps168 (Nat.le_of_ble_eq_true rfl) ?_
  repeat' ((conv => whnf); first | refine RetC.mk ?_ | refine NzC.mk (by decide) ?_ | refine RngC.mk (by omega) (by omega) ?_ | refine IdxC.mk (by omega) (by omega) ?_ | refine brD (fun _ => ?_) (fun _ => ?_) | refine brND (fun _ => ?_) (fun _ => ?_) | refine brN (fun _ => ?_) (fun _ => ?_) | refine brI (fun _ => ?_) (fun _ => ?_))
  all_goals refine ⟨?_, rfl⟩
  all_goals unfold timeS
  all_goals ((repeat' split) <;> first | rfl | (exfalso; omega) | (simp_all [over, cellsL]; done) | (simp_all [over, cellsL]; omega) | trace_state)
end Go.Proofs.YtoaghhcjlfiflaaGreatDoor

namespace Go.Proofs.YtoaghhcjlfiflaaGreatDoor
open Go Ev

structure RoleS where
  node : Int
  epoch : Int
  silence : Int
  active : Bool

def encRole (r : RoleS) : List Value := [.int .i64 r.node, .int .i64 r.epoch, .int .i64 r.silence, .bool r.active]

structure RoleS.Ok (r : RoleS) : Prop where
  n0 : r.node = 0 ∨ r.node = 1
  e0 : 0 ≤ r.epoch
  e1 : r.epoch ≤ 1073741824
  s0 : 0 ≤ r.silence
  s1 : r.silence ≤ 1000000000000

def RoleS.next (r : RoleS) : Int × Nat :=
  let e := if (r.epoch + 1).tmod 2 ≠ r.node then r.epoch + 1 + 1 else r.epoch + 1
  if e > 1073741824 then (0, 2) else (e, 0)
def RoleS.tick (r : RoleS) : Bool × RoleS := if r.active then (false, r) else (decide (r.silence + 1 > 9), { r with silence := r.silence + 1 })
def RoleS.claim (r : RoleS) (e : Int) : Nat × RoleS :=
  if r.active then (11, r) else if r.next.2 ≠ 0 then (r.next.2, r) else if r.next.1 ≠ e then (3, r) else (0, { r with active := true, epoch := e })
def RoleS.hear (r : RoleS) (e : Int) : Bool × RoleS :=
  if e < 0 ∨ e > 1073741824 then (false, r) else
  let d := if e > r.epoch then r.active else false
  let r1 := if e > r.epoch then { r with epoch := e, active := false } else r
  (d, if r1.active = false ∧ e = r1.epoch then { r1 with silence := 0 } else r1)

section
variable {w : World} {b : Nat} {r : RoleS}

theorem role_active (hb : Blk w b 115 (encRole r)) : CallC Tryz.prog 20 #[.pointer (some ⟨b, 0, none⟩)] w fun v w' => v = .bool r.active ∧ w = w' := by
  refine fn_intro tabOk Tryz.func20 (by kernel_rfl) rfl Tryz.ntmps20 (Nat.le_of_ble_eq_true rfl) ?_
  have hS := (St.start w (· = b)).add (blk_local b _ _) hb (by simp [blk]; exact hb.lt) (by simp)
  repeat' ((conv => whnf); first | refine RetC.mk ?_ | refine NzC.mk (by decide) ?_ | refine RngC.mk (by omega) (by omega) ?_ | refine IdxC.mk (by omega) (by omega) ?_ | refine hS.ld 0 rfl rfl ?_ | refine brD (fun _ => ?_) (fun _ => ?_) | refine brND (fun _ => ?_) (fun _ => ?_) | refine brN (fun _ => ?_) (fun _ => ?_) | refine brI (fun _ => ?_) (fun _ => ?_))
  exact ⟨rfl, rfl⟩

theorem role_epoch (hb : Blk w b 115 (encRole r)) : CallC Tryz.prog 22 #[.pointer (some ⟨b, 0, none⟩)] w fun v w' => v = .int .i64 r.epoch ∧ w = w' := by
  refine fn_intro tabOk Tryz.func22 (by kernel_rfl) rfl Tryz.ntmps22 (Nat.le_of_ble_eq_true rfl) ?_
  have hS := (St.start w (· = b)).add (blk_local b _ _) hb (by simp [blk]; exact hb.lt) (by simp)
  repeat' ((conv => whnf); first | refine RetC.mk ?_ | refine NzC.mk (by decide) ?_ | refine RngC.mk (by omega) (by omega) ?_ | refine IdxC.mk (by omega) (by omega) ?_ | refine hS.ld 0 rfl rfl ?_ | refine brD (fun _ => ?_) (fun _ => ?_) | refine brND (fun _ => ?_) (fun _ => ?_) | refine brN (fun _ => ?_) (fun _ => ?_) | refine brI (fun _ => ?_) (fun _ => ?_))
  exact ⟨rfl, rfl⟩

theorem role_tick (hb : Blk w b 115 (encRole r)) (hr : r.Ok) : CallC Tryz.prog 100 #[.pointer (some ⟨b, 0, none⟩)] w fun v w' => v = .bool r.tick.1 ∧ Ext (· = b) w w' ∧ Blk w' b 115 (encRole r.tick.2) := by
  have h1 := hr.s1
  have h0 := hr.s0
  refine fn_intro tabOk Tryz.func100 (by kernel_rfl) rfl Tryz.ntmps100 (Nat.le_of_ble_eq_true rfl) ?_
  have hS := (St.start w (· = b)).add (blk_local b _ _) hb (by simp [blk]; exact hb.lt) (by simp)
  (conv => whnf)
  refine hS.ld 0 rfl rfl ?_
  (conv => whnf)
  refine brI (fun ha => ?_) (fun ha => ?_)
  · repeat' ((conv => whnf); first | refine RetC.mk ?_ | refine NzC.mk (by decide) ?_ | refine RngC.mk (by omega) (by omega) ?_ | refine IdxC.mk (by omega) (by omega) ?_ | refine brD (fun _ => ?_) (fun _ => ?_) | refine brND (fun _ => ?_) (fun _ => ?_) | refine brN (fun _ => ?_) (fun _ => ?_) | refine brI (fun _ => ?_) (fun _ => ?_))
    have e : r.tick = (false, r) := by simp [RoleS.tick, ha]
    rw [e]
    exact ⟨rfl, hS.ext, hS.blk 0 rfl⟩
  · repeat' ((conv => whnf); first | refine RetC.mk ?_ | refine NzC.mk (by decide) ?_ | refine RngC.mk (by omega) (by omega) ?_ | refine IdxC.mk (by omega) (by omega) ?_ | refine hS.ld 0 rfl rfl ?_ | refine hS.st 0 rfl (Nat.le_of_ble_eq_true rfl) rfl (fun w' hS => ?_) | refine brD (fun _ => ?_) (fun _ => ?_) | refine brND (fun _ => ?_) (fun _ => ?_) | refine brN (fun _ => ?_) (fun _ => ?_) | refine brI (fun _ => ?_) (fun _ => ?_))
    have e : r.tick = (decide (r.silence + 1 > 9), { r with silence := r.silence + 1 }) := by simp [RoleS.tick, ha]
    rw [e]
    exact ⟨rfl, hS.ext, hS.blk 0 rfl⟩

theorem tmod2 {x : Int} (h : 0 ≤ x) : x.tmod 2 = x % 2 := Int.tmod_eq_emod_of_nonneg h

theorem role_next {E : Nat → Addr} (hb : Blk w b 115 (encRole r)) (hr : r.Ok) {n : Nat} (hE : Errs w E n [2]) :
    CallC Tryz.prog 145 #[.pointer (some ⟨b, 0, none⟩)] w fun v w' => v = .tuple #[.int .i64 r.next.1, errV E r.next.2] ∧ Ext No w w' := by
  have h1 := hr.e1
  have h0 := hr.e0
  refine fn_intro tabOk Tryz.func145 (by kernel_rfl) rfl Tryz.ntmps145 (Nat.le_of_ble_eq_true rfl) ?_
  have hS := St.start w No
  repeat' ((conv => whnf); first | refine hS.ldr (show w.cell? ⟨b, 0 + 0, none⟩ = _ from hb.cell _) id ?_ | refine hS.ldr (show w.cell? ⟨b, 0 + 1, none⟩ = _ from hb.cell _) id ?_ | (refine drawS tabOk mixed [] No [0, 1, 2] (by kernel_rfl) ?_; rintro w1 rfl; replace hS := hS.drew) | refine hS.ldrF (hE.at_ 2 rfl) id id ?_ | refine RetC.mk ?_ | refine NzC.mk (by decide) ?_ | refine RngC.mk (by omega) (by omega) ?_ | refine brD (fun _ => ?_) (fun _ => ?_) | refine brND (fun _ => ?_) (fun _ => ?_))
  all_goals refine ⟨?_, hS.ext⟩
  all_goals clear hb hE hS
  all_goals unfold RoleS.next; dsimp only
  all_goals ((repeat' split) <;> first | rfl | (exfalso; omega) | (simp_all [over, cellsL]; done) | (simp_all [over, cellsL]; omega) | trace_state)

theorem role_claim {E : Nat → Addr} (e : Int) (hb : Blk w b 115 (encRole r)) (hr : r.Ok) {n : Nat} (hE : Errs w E n [2, 3, 11]) (hn : n ≤ b) :
    CallC Tryz.prog 146 #[.pointer (some ⟨b, 0, none⟩), .int .i64 e] w fun v w' => v = errV E (r.claim e).1 ∧ Ext (· = b) w w' ∧ Blk w' b 115 (encRole (r.claim e).2) := by
  refine fn_intro tabOk Tryz.func146 (by kernel_rfl) rfl Tryz.ntmps146 (Nat.le_of_ble_eq_true rfl) ?_
  have hS := (St.start w (· = b)).add (blk_local b _ _) hb (by simp [blk]; exact hb.lt) (by simp)
  (conv => whnf)
  have g2 := hE.lt 2 rfl
  have g3 := hE.lt 3 rfl
  have g11 := hE.lt 11 rfl
  simp only [gErr] at g2 g3 g11
  refine (role_next hb hr (hE.sub rfl)).mono ?_
  rintro v w' ⟨rfl, hx⟩
  replace hS := hS.no hx
  obtain ⟨x, k, hk, hk2⟩ : ∃ x k, r.next = (x, k) ∧ (k = 0 ∨ k = 2) := by
    refine ⟨r.next.1, r.next.2, rfl, ?_⟩
    unfold RoleS.next
    dsimp only
    split <;> split <;> simp
  rw [hk]
  rcases hk2 with rfl | rfl
  all_goals repeat' ((conv => whnf); first | refine RetC.mk ?_ | refine NzC.mk (by decide) ?_ | refine RngC.mk (by omega) (by omega) ?_ | refine IdxC.mk (by omega) (by omega) ?_ | refine hS.ld 0 rfl rfl ?_ | refine hS.ldr (hE.at_ 2 rfl) (hE.ne 2 rfl hn) ?_ | refine hS.ldr (hE.at_ 3 rfl) (hE.ne 3 rfl hn) ?_ | refine hS.ldr (hE.at_ 11 rfl) (hE.ne 11 rfl hn) ?_ | refine hS.st 0 rfl (Nat.le_of_ble_eq_true rfl) rfl (fun w' hS => ?_) | refine brD (fun _ => ?_) (fun _ => ?_) | refine brND (fun _ => ?_) (fun _ => ?_) | refine brN (fun _ => ?_) (fun _ => ?_) | refine brI (fun _ => ?_) (fun _ => ?_))
  all_goals have hB := hS.blk 0 rfl
  all_goals refine ⟨?_, hS.ext, hB.to ?_⟩
  all_goals clear hB hS
  all_goals unfold RoleS.claim; rw [hk]; dsimp only [encRole]
  all_goals ((repeat' split) <;> first | rfl | (exfalso; omega) | (simp_all [over, cellsL]; done) | (simp_all [over, cellsL]; omega) | trace_state)

theorem role_hear (e : Int) (hb : Blk w b 115 (encRole r)) : CallC Tryz.prog 105 #[.pointer (some ⟨b, 0, none⟩), .int .i64 e] w fun v w' => v = .bool (r.hear e).1 ∧ Ext (· = b) w w' ∧ Blk w' b 115 (encRole (r.hear e).2) := by
  refine fn_intro tabOk Tryz.func105 (by kernel_rfl) rfl Tryz.ntmps105 (Nat.le_of_ble_eq_true rfl) ?_
  have hS := (St.start w (· = b)).add (blk_local b _ _) hb (by simp [blk]; exact hb.lt) (by simp)
  repeat' ((conv => whnf); first | refine RetC.mk ?_ | refine NzC.mk (by decide) ?_ | refine RngC.mk (by omega) (by omega) ?_ | refine IdxC.mk (by omega) (by omega) ?_ | refine hS.ld 0 rfl rfl ?_ | refine hS.st 0 rfl (Nat.le_of_ble_eq_true rfl) rfl (fun w' hS => ?_) | refine brD (fun _ => ?_) (fun _ => ?_) | refine brND (fun _ => ?_) (fun _ => ?_) | refine brN (fun _ => ?_) (fun _ => ?_) | refine brI (fun _ => ?_) (fun _ => ?_))
  all_goals have hB := hS.blk 0 rfl
  all_goals refine ⟨?_, hS.ext, hB.to ?_⟩
  all_goals clear hB hS hb
  all_goals unfold RoleS.hear; dsimp only [encRole]
  all_goals ((repeat' split) <;> first | rfl | (exfalso; omega) | (simp_all [over, cellsL]; done) | (simp_all [over, cellsL]; omega) | trace_state)

theorem role_new (a e : Int) (w : World) (ha : a = 0 ∨ a = 1) (h0 : 0 ≤ e) (h1 : e ≤ 1073741824) : CallC Tryz.prog 90 #[.int .i64 a, .int .i64 e] w fun v w' =>
    ∃ b, v = .tuple #[.pointer (some ⟨b, 0, none⟩), .nilIface] ∧ w.heap.size ≤ b ∧ Ext No w w' ∧ Blk w' b 115 (encRole ⟨a, e, 0, false⟩) := by
  refine fn_intro tabOk Tryz.func90 (by kernel_rfl) rfl Tryz.ntmps90 (Nat.le_of_ble_eq_true rfl) ?_
  have hS := St.start w No
  repeat' ((conv => whnf); first | refine hS.new (fun b w' hb hS => ?_) | refine RetC.mk ?_ | refine brD (fun _ => ?_) (fun _ => ?_) | refine brND (fun _ => ?_) (fun _ => ?_))
  all_goals first | (exfalso; omega) | exact ⟨_, rfl, hb, hS.ext, hS.blk 0 rfl⟩

end
end Go.Proofs.YtoaghhcjlfiflaaGreatDoor

namespace Go.Proofs.YtoaghhcjlfiflaaGreatDoor
open Go Ev

def numK (n m i : Nat) : List UInt8 := (List.range m).map fun j => if m ≤ j + i then UInt8.ofNat (n / 256 ^ (m - 1 - j)) else 0
def numB (n m : Nat) : List UInt8 := (List.range m).map fun j => UInt8.ofNat (n / 256 ^ (m - 1 - j))
theorem numK_len (n m i : Nat) : (numK n m i).length = m := by simp [numK]
theorem numB_len (n m : Nat) : (numB n m).length = m := by simp [numB]
theorem numK_zero (n m : Nat) : numK n m 0 = List.replicate m 0 := by
  apply List.ext_getElem?
  intro j
  by_cases h : j < m
  · have : ¬ m ≤ j := by omega
    simp [numK, h, this]
  · simp [numK, h]
theorem numK_full (n m : Nat) : numK n m m = numB n m := by
  unfold numK numB
  apply List.map_congr_left
  intro j _
  rw [if_pos (by omega)]
theorem numK_at {n m i j : Nat} (h : j < m) : (numK n m i)[j]? = some (if m ≤ j + i then UInt8.ofNat (n / 256 ^ (m - 1 - j)) else 0) := by simp [numK, h]
theorem numK_set {n m i : Nat} (h : i < m) : (numK n m i).set (m - 1 - i) (UInt8.ofNat (n / 256 ^ i)) = numK n m (i + 1) := by
  apply List.ext_getElem?
  intro j
  rw [List.getElem?_set]
  by_cases e : m - 1 - i = j
  · subst e
    rw [if_pos rfl, if_pos (by rw [numK_len]; omega), numK_at (by omega), if_pos (by omega), show m - 1 - (m - 1 - i) = i by omega]
  · rw [if_neg e]
    by_cases hj : j < m
    · rw [numK_at hj, numK_at hj]
      by_cases h1 : m ≤ j + i
      · rw [if_pos h1, if_pos (by omega)]
      · rw [if_neg h1, if_neg (by omega)]
    · rw [List.getElem?_eq_none (by rw [numK_len]; omega), List.getElem?_eq_none (by rw [numK_len]; omega)]
theorem byte_of (q : Nat) : ((UInt8.ofNat q).toNat : Int) = (q : Int) % 256 := by
  rw [UInt8.toNat_ofNat']
  omega

theorem own_cells {α : Type} {w : World} {sz n c g : Nat} {e : TypeId} {enc : α → List Value} (C : Codec sz enc) {xs : List α} (h : (ownL e sz enc (.slice (some ⟨g, 0, none⟩) n c) xs).holds w) : CellsAt w g 0 (xs.flatMap enc) := by
  obtain ⟨_, ⟨h1, _⟩ | ⟨g', cap, cur, h1, h2, h3, h4, h5, h6, h7⟩⟩ := h
  · cases h1
  · cases h1
    intro j v hj
    have hlt := (List.getElem?_eq_some_iff.1 hj).1
    rw [flat_len C] at hlt
    rw [← h7, List.getElem?_take_of_lt (by omega)] at hj
    simp only [World.cell?, h3, Nat.zero_add]
    simpa using hj
theorem rep_flat : ∀ m : Nat, List.replicate m (Value.int .u8 0) = (List.replicate m (0 : UInt8)).flatMap encU
  | 0 => rfl
  | m + 1 => by rw [List.replicate_succ, List.replicate_succ, List.flatMap_cons, ← rep_flat m]; rfl
theorem shr_byte (n i : Nat) : IntKind.u8.wrap ((n : Int) / 2 ^ (8 * i)) = ((UInt8.ofNat (n / 256 ^ i)).toNat : Int) := by
  rw [IntKind.wrap_u8', byte_of, Int.pow_mul]
  have : ((2 : Int) ^ 8) ^ i = ((256 ^ i : Nat) : Int) := by simp
  rw [this, ← Int.natCast_ediv]
theorem number_ok (n m : Nat) (hm : m ≤ 7) (_hn : n < 9223372036854775808) (w : World) :
    CallC Tryz.prog 182 #[.int .i64 (n : Int), .int .i64 (m : Int)] w fun v w' => v = .string (bs (numB n m)) ∧ Ext No w w' := by
  refine fn_intro tabOk Tryz.func182 (by kernel_rfl) rfl Tryz.ntmps182 (Nat.le_of_ble_eq_true rfl) ?_
  have hS := St.start w No
  (conv => whnf)
  refine hS.mkSlice (n := m) Tryz.underlying169 (sz := 1) (bytes := 1) (by kernel_rfl) (z := .int .u8 0) (by kernel_rfl) (by omega) (by omega) (by unfold maxLen; omega) (enc := encU) (xs := numK n m 0) (numK_len _ _ _) (by rw [numK_zero, show (Value.int .u8 0).cells = #[.int .u8 0] from rfl, made_rep, Nat.mul_one]; exact rep_flat m) (fun g w' hg hS => ?_)
  (conv => whnf)
  refine loopR tabOk (fun σ w' q => ∃ i : Nat, σ = [(10, .int .i64 i), (9, .int .i64 m), (5, .slice (some ⟨g, 0, none⟩) m m), (1, .int .i64 m), (0, .int .i64 n)] ∧ q = m - i ∧ i ≤ m ∧ St w No w' [ownL 5 1 encU (.slice (some ⟨g, 0, none⟩) m m) (numK n m i)])
    (σ' := [(10, .int .i64 ((0 : Nat) : Int)), (9, .int .i64 m), (5, .slice (some ⟨g, 0, none⟩) m m), (1, .int .i64 m), (0, .int .i64 n)]) (n := m) ⟨rfl, rfl, rfl, rfl, rfl, trivial⟩ ⟨0, rfl, rfl, Nat.zero_le _, hS⟩ ?_
  clear hS
  rintro _ w1 q ⟨i, rfl, rfl, hi, hS⟩
  (conv => whnf)
  refine brD (fun h3 => ?_) (fun h3 => ?_)
  · have hi2 : i < m := by omega
    repeat' ((conv => whnf); first | refine RetC.mk ?_ | refine NzC.mk (by decide) ?_ | refine RngC.mk (by omega) (by omega) ?_ | refine IdxC.mk (by omega) (by omega) ?_ | refine RngC.mk (by omega) (by omega) ?_ | refine brD (fun _ => ?_) (fun _ => ?_) | refine brND (fun _ => ?_) (fun _ => ?_) | refine brN (fun _ => ?_) (fun _ => ?_) | refine brI (fun _ => ?_) (fun _ => ?_))
    refine shrC (n := 8 * i) (by omega) (by show 8 * i ≤ 64; omega) ?_
    (conv => whnf)
    refine convI (kd := .u8) (by kernel_rfl) Tryz.underlying5 (shr_byte n i) ?_
    (conv => whnf)
    refine IdxC.mk (by omega) (by omega) ?_
    (conv => whnf)
    refine hS.setL codU 0 (k := m - 1 - i) (x := UInt8.ofNat (n / 256 ^ i)) rfl (numK_at (by omega)) (by omega) rfl (fun w' _ hS => ?_)
    rw [numK_set hi2] at hS
    (conv => whnf)
    refine RngC.mk (by omega) (by omega) ?_
    (conv => whnf)
    refine LoopE.mk ⟨_, [(10, .int .i64 ((i + 1 : Nat) : Int)), (9, _), (5, _), (1, _), (0, _)], ?_, ⟨rfl, rfl, rfl, rfl, rfl, trivial⟩, ⟨i + 1, rfl, rfl, by omega, hS⟩⟩
    omega
  · obtain rfl : i = m := by omega
    rw [numK_full] at hS
    obtain ⟨_, _, h0⟩ : ∃ b o, CellsAt w1 g 0 ((numB n i).flatMap encU) := ⟨0, 0, own_cells codU (hS.get 0 rfl)⟩
    (conv => whnf)
    refine strC Tryz.underlying169 Tryz.underlying5 Tryz.underlying9 h0 (numB_len _ _) ?_
    repeat' ((conv => whnf); first | refine RetC.mk ?_ | refine NzC.mk (by decide) ?_ | refine RngC.mk (by omega) (by omega) ?_ | refine IdxC.mk (by omega) (by omega) ?_ | refine brD (fun _ => ?_) (fun _ => ?_) | refine brND (fun _ => ?_) (fun _ => ?_) | refine brN (fun _ => ?_) (fun _ => ?_) | refine brI (fun _ => ?_) (fun _ => ?_))
    exact ⟨rfl, hS.ext⟩

def valB (l : List UInt8) : Nat := l.foldl (fun n b => n * 256 + b.toNat) 0
theorem valB_step {l : List UInt8} {k : Nat} {x : UInt8} (h : l[k]? = some x) : valB (l.take (k + 1)) = valB (l.take k) * 256 + x.toNat := by
  unfold valB
  rw [List.take_add_one, h, List.foldl_append]
  rfl
theorem valB_app (l : List UInt8) (x : UInt8) : valB (l ++ [x]) = valB l * 256 + x.toNat := by
  unfold valB
  rw [List.foldl_append]
  rfl
theorem foldB_lt : ∀ (l : List UInt8) (n c : Nat), n < 256 ^ c → l.foldl (fun n b => n * 256 + b.toNat) n < 256 ^ (c + l.length)
  | [], n, c, h => by simpa using h
  | x :: l, n, c, h => by
    have hx := x.toNat_lt
    have := foldB_lt l (n * 256 + x.toNat) (c + 1) (by rw [Nat.pow_succ]; omega)
    rw [List.foldl_cons, List.length_cons, show c + (l.length + 1) = c + 1 + l.length by omega]
    exact this
theorem valB_lt (l : List UInt8) : valB l < 256 ^ l.length := by
  have := foldB_lt l 0 0 (by simp)
  rwa [Nat.zero_add] at this
theorem or_add {a b : Nat} (hb : b < 256) : a * 256 ||| b = a * 256 + b := by
  have := Nat.shiftLeft_add_eq_or_of_lt (i := 8) (b := b) (by omega) a
  rw [Nat.shiftLeft_eq] at this
  exact this.symm
theorem value_ok (l : List UInt8) (hl : l.length ≤ 7) (w : World) :
    CallC Tryz.prog 132 #[.string (bs l)] w fun v w' => v = .int .i64 (valB l : Nat) ∧ Ext No w w' := by
  refine fn_intro tabOk Tryz.func132 (by kernel_rfl) rfl Tryz.ntmps132 (Nat.le_of_ble_eq_true rfl) ?_
  have hS := St.start w No
  (conv => whnf)
  rw [bs_size]
  refine loopR tabOk (fun σ w' q => ∃ i : Nat, σ = [(7, .int .i64 i), (6, .int .i64 (l.length : Nat)), (3, .int .i64 (valB (l.take i) : Nat)), (0, .string (bs l))] ∧ q = l.length - i ∧ i ≤ l.length ∧ St w No w' [])
    (σ' := [(7, .int .i64 ((0 : Nat) : Int)), (6, .int .i64 (l.length : Nat)), (3, .int .i64 ((0 : Nat) : Int)), (0, .string (bs l))]) (n := l.length) ⟨rfl, rfl, rfl, rfl, trivial⟩ ⟨0, rfl, rfl, Nat.zero_le _, hS⟩ ?_
  clear hS
  rintro _ w1 q ⟨i, rfl, rfl, hi, hS⟩
  (conv => whnf)
  refine brD (fun h3 => ?_) (fun h3 => ?_)
  · obtain ⟨x, hx⟩ : ∃ x, l[i]? = some x := ⟨_, List.getElem?_eq_getElem (by omega)⟩
    have hst := valB_step hx
    have hlt := valB_lt (l.take i)
    have h7 : 256 ^ (l.take i).length ≤ 256 ^ 6 := Nat.pow_le_pow_right (by omega) (by rw [List.length_take]; omega)
    have hx8 := x.toNat_lt
    generalize valB (l.take i) = v at hst hlt
    have hv : v < 281474976710656 := Nat.lt_of_lt_of_le hlt h7
    (conv => whnf)
    refine shlC (n := 8) (m := ((v * 256 : Nat) : Int)) rfl (by decide) (by rw [IntKind.wrap_i64]; omega) ?_
    (conv => whnf)
    refine idxS Tryz.underlying9 rfl hx ?_
    (conv => whnf)
    refine convI (kd := .i64) (m := (x.toNat : Int)) (by kernel_rfl) Tryz.underlying3 (by rw [IntKind.wrap_i64]; omega) ?_
    (conv => whnf)
    refine orC64 (a := v * 256) (by omega) (by omega) ?_
    rw [or_add (by omega), ← hst]
    (conv => whnf)
    refine RngC.mk (by omega) (by omega) ?_
    (conv => whnf)
    refine LoopE.mk ⟨_, [(7, .int .i64 ((i + 1 : Nat) : Int)), (6, _), (3, .int .i64 (valB (l.take (i + 1)) : Nat)), (0, _)], ?_, ⟨rfl, rfl, rfl, rfl, trivial⟩, ⟨i + 1, rfl, rfl, by omega, hS⟩⟩
    omega
  · obtain rfl : i = l.length := by omega
    rw [List.take_length]
    repeat' ((conv => whnf); first | refine RetC.mk ?_ | refine NzC.mk (by decide) ?_ | refine RngC.mk (by omega) (by omega) ?_ | refine IdxC.mk (by omega) (by omega) ?_ | refine brD (fun _ => ?_) (fun _ => ?_) | refine brND (fun _ => ?_) (fun _ => ?_) | refine brN (fun _ => ?_) (fun _ => ?_) | refine brI (fun _ => ?_) (fun _ => ?_))
    exact ⟨rfl, hS.ext⟩
theorem numB_succ (n m : Nat) : numB n (m + 1) = numB (n / 256) m ++ [UInt8.ofNat n] := by
  unfold numB
  rw [List.range_succ, List.map_append]
  congr 1
  · apply List.map_congr_left
    intro j hj
    have hj := List.mem_range.1 hj
    rw [show m + 1 - 1 - j = (m - 1 - j) + 1 by omega, Nat.pow_succ, Nat.mul_comm, ← Nat.div_div_eq_div_mul]
  · simp
theorem valB_num : ∀ (m n : Nat), valB (numB n m) = n % 256 ^ m
  | 0, n => by simp [numB, valB, Nat.mod_one]
  | m + 1, n => by
    have h : (256 : Nat) ^ (m + 1) = 256 * 256 ^ m := Nat.pow_succ'
    rw [numB_succ, valB_app, valB_num m, UInt8.toNat_ofNat', h, Nat.mod_mul]
    omega
end Go.Proofs.YtoaghhcjlfiflaaGreatDoor
