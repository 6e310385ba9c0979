
/-
  The reference's teller, walked: NewTeller, Lag.
-/
import Derived.Test.YteakdmngllfodaaDoorTellerB
import Derived.Laws.OwnMore
namespace Go.Proofs.YteakdmngllfodaaDoor
open Go Ev

theorem Ev.St.mkSlice {P : Program} {α : Type} {w0 w : World} {S : Nat → Prop} {H : List Ent} (h : St w0 S w H) {t e : TypeId} {sz bytes n : Nat} {z : Value} {enc : α → List Value} {xs : List α} {kl kc : IntKind} {k : Value → World → Prop}
    (hu : P.underlying t = some (.slice e)) (hs : (P.info? e).map (fun i => (i.size, i.bytes)) = some (sz, bytes)) (hz : (P.info? e).bind (·.zero) = some z) (h1 : n * sz ≤ 16777216) (h2 : bytes * n ≤ 281474976710656) (h3 : n ≤ maxLen)
    (hl : xs.length = n) (hcs : (madeCells z.cells (n * sz)).toList = xs.flatMap enc)
    (hk : ∀ b w', w0.heap.size ≤ b → St w0 S w' (H ++ [ownL e sz enc (.slice (some ⟨b, 0, none⟩) n n) xs]) → k (.slice (some ⟨b, 0, none⟩) n n) w') : RunC P (Instr.makeSlice t (.int kl (n : Int)) (.int kc (n : Int))) w k := by
  obtain ⟨ie, e1, e2⟩ := Option.map_eq_some_iff.1 hs
  obtain ⟨ie', e3, e4⟩ := Option.bind_eq_some_iff.1 hz
  obtain rfl := Option.some.inj (e1.symm.trans e3)
  simp only [Prod.mk.injEq] at e2
  obtain ⟨w', hr, ho, hg⟩ := run_makeSlice_full (P := P) w 0 t e ie z sz hu e1 e4 e2.1 kl kc n h1 (by rw [e2.2]; exact h2) h3 (Nat.zero_le _)
  refine ⟨_, _, hr, hk _ _ h.ext.size (h.made (Ext.of_grown hg |>.mono fun _ hb => by cases hb) ownL_local ?_ ?_)⟩
  · unfold ownL own
    rw [hl, ← hcs]
    exact ho
  · intro b hb
    obtain rfl : b = w.heap.size := by simpa [ownL, own, Value.ownBlock] using hb
    refine ⟨Nat.le_refl _, ?_⟩
    obtain ⟨_, ⟨h6, _⟩ | ⟨g, cap, cur, h6, _, h7, _⟩⟩ := ho
    · cases h6
    · cases h6
      exact (Array.getElem?_eq_some_iff.1 h7).1

/-- The reference's teller: its variable, and the row of what was told. -/
def refL (bt bl gl cl : Nat) (X : TelS) : Ent := ⟨[bl, gl], fun w => bl ≠ gl ∧ Blk w bl 105 [.pointer (some ⟨bt, 0, none⟩), .slice (some ⟨gl, 0, none⟩) 32 cl, .int .i64 (X.cursor : Int)] ∧ (ownL 3 1 encI (.slice (some ⟨gl, 0, none⟩) 32 cl) X.told).holds w⟩
theorem refL_local {bt bl gl cl : Nat} {X : TelS} : (refL bt bl gl cl X).Local := fun w w' h ⟨h1, h2, h3⟩ =>
  ⟨h1, blk_local bl _ _ w w' (fun b hb => h b (by simp [blk] at hb; simp [refL, hb])) h2, ownL_local w w' (fun b hb => h b (by simp [ownL, own, Value.ownBlock] at hb; simp [refL, hb])) h3⟩

section
variable {w : World} {bt g c bl gl cl : Nat} {T : MirS} {X : TelS}
theorem refL_told (h : (refL bt bl gl cl X).holds w) {k : Nat} {u : Int} (hu : X.told[k]? = some u) : w.cell? ⟨gl, 0 + k * 1, none⟩ = some (.int .i64 u) := by
  obtain ⟨_, _, h3⟩ := h
  have hl : X.told.length = 32 := by
    obtain ⟨_, ⟨h4, _⟩ | ⟨g', cap, cur, h4, _⟩⟩ := h3
    · cases h4
    · simp only [Value.slice.injEq] at h4
      exact h4.2.1.symm
  obtain ⟨b, o, h5, _, h6⟩ := (ownL_slc (G := fun _ => True) codInt h3 fun _ _ => trivial).cells k u hu
  cases h5
  exact h6.one 0 rfl

theorem rlNew_ok (w : World) : CallC Tryd.prog 13 #[.pointer (some ⟨bt, 0, none⟩)] w fun v w' => ∃ bl gl cl, v = .pointer (some ⟨bl, 0, none⟩) ∧ Ext No w w' ∧ (refL bt bl gl cl tel0).holds w' ∧ (∀ b ∈ (refL bt bl gl cl tel0).foot, w.heap.size ≤ b ∧ b < w'.heap.size) := by
  refine fn_intro tabOk Tryd.func13 (by kernel_rfl) rfl Tryd.ntmps13 (Nat.le_of_ble_eq_true rfl) ?_
  have hS := St.start w No
  (conv => whnf)
  refine hS.mkSlice (n := 32) Tryd.underlying64 (sz := 1) (bytes := 8) (by kernel_rfl) (z := .int .i64 0) (by kernel_rfl) (by decide) (by decide) (by decide) (enc := encI) (xs := List.replicate 32 (0 : Int)) (by simp) (by kernel_rfl) (fun gl w' hgl hS => ?_)
  (conv => whnf)
  refine hS.new (fun bl w' hbl hS => ?_)
  repeat' ((conv => whnf); first | refine RetC.mk ?_ | refine NzC.mk (by decide) ?_ | refine RngC.mk (by omega) (by omega) ?_ | refine IdxC.mk (by omega) (by omega) ?_ | refine brD (fun _ => ?_) (fun _ => ?_) | refine brND (fun _ => ?_) (fun _ => ?_) | refine brN (fun _ => ?_) (fun _ => ?_) | refine brI (fun _ => ?_) (fun _ => ?_))
  refine ⟨bl, gl, 32, rfl, hS.ext, ⟨?_, hS.get 1 rfl, hS.get 0 rfl⟩, ?_⟩
  · have := pairwise_at apart_symm hS.apart (i := 1) (j := 0) rfl rfl (by decide) bl (by simp [blk])
    simpa [ownL, own, Value.ownBlock] using this
  · intro b hb
    simp only [refL, List.mem_cons, List.not_mem_nil, or_false] at hb
    rcases hb with rfl | rfl
    · have := hS.may _ (List.mem_of_getElem? (i := 1) rfl) b (by simp [blk])
      exact ⟨this.1.resolve_left id, this.2⟩
    · have := hS.may _ (List.mem_of_getElem? (i := 0) rfl) b (by simp [ownL, own, Value.ownBlock])
      exact ⟨this.1.resolve_left id, this.2⟩

theorem rlLag_ok (hT : (refT bt g c T).holds w) (hL : (refL bt bl gl cl X).holds w) (hl : T.cells.length = 32) (ht : X.told.length = 32) :
    CallC Tryd.prog 24 #[.pointer (some ⟨bl, 0, none⟩)] w fun v w' => v = .int .i64 (lag T.cells X.told : Nat) ∧ Ext No w w' := by
  refine fn_intro tabOk Tryd.func24 (by kernel_rfl) rfl Tryd.ntmps24 (Nat.le_of_ble_eq_true rfl) ?_
  have hS := St.start w No
  (conv => whnf)
  refine loopR tabOk (fun σ w' q => ∃ k : Nat, σ = [(4, .int .i64 k), (3, .int .i64 (lagK T.cells X.told k : Nat)), (0, .pointer (some ⟨bl, 0, none⟩))] ∧ q = 32 - k ∧ k ≤ 32 ∧ St w No w' [])
    (σ' := [(4, .int .i64 ((0 : Nat) : Int)), (3, .int .i64 ((0 : Nat) : Int)), (0, .pointer (some ⟨bl, 0, none⟩))]) (n := 32) ⟨rfl, rfl, rfl, trivial⟩ ⟨0, rfl, rfl, Nat.zero_le _, hS⟩ ?_
  clear hS
  rintro _ w1 q ⟨k, rfl, rfl, hk, hS⟩
  have hlk := lagK_le T.cells X.told k
  have hls := lagK_succ T.cells X.told k
  (conv => whnf)
  refine brD (fun h3 => ?_) (fun h3 => ?_)
  · have hk : k < 32 := by omega
    obtain ⟨x, hx⟩ : ∃ x, T.cells[k]? = some x := ⟨_, List.getElem?_eq_getElem (by omega)⟩
    obtain ⟨u, hu⟩ : ∃ u, X.told[k]? = some u := ⟨_, List.getElem?_eq_getElem (by omega)⟩
    have hlb : lagB T.cells X.told k = decide (x.ver ≠ u) := by unfold lagB; rw [verAt_of hx, toldAt_of hu]
    have hcx : w.cell? ⟨g, 0 + Int.toNat (k : Int) * 10 + 1, none⟩ = some (.int .i64 x.ver) := by rw [Nat.zero_add]; exact (refT_at hT hx).one 1 rfl
    have hcu : w.cell? ⟨gl, 0 + Int.toNat (k : Int) * 1, none⟩ = some (.int .i64 u) := refL_told hL hu
    repeat' ((conv => whnf); first | refine RetC.mk ?_ | refine NzC.mk (by decide) ?_ | refine RngC.mk (by omega) (by omega) ?_ | refine IdxC.mk (by omega) (by omega) ?_ | (refine drawS tabOk mixed [] No [0, 1, 2, 3, 4, 5, 6, 7, 8, 9, 10, 11, 12, 13, 14, 15, 16, 17, 18] (by kernel_rfl) ?_; rintro w1 rfl; replace hS := hS.drew) | refine IdxC.mk (by omega) (by omega) ?_ | refine hS.ldrF (hL.2.1.cell 0) id id ?_ | refine hS.ldrF (hL.2.1.cell 1) id id ?_ | refine hS.ldrF (refT_l hT) id id ?_ | refine hS.ldrF hcx id id ?_ | refine hS.ldrF hcu id id ?_ | refine brD (fun _ => ?_) (fun _ => ?_) | refine brND (fun _ => ?_) (fun _ => ?_) | refine brN (fun _ => ?_) (fun _ => ?_) | refine brI (fun _ => ?_) (fun _ => ?_))
    · rename_i h1
      rw [if_pos (by rw [hlb]; exact decide_eq_true h1)] at hls
      refine LoopE.mk ⟨_, [(4, .int .i64 ((k + 1 : Nat) : Int)), (3, .int .i64 (lagK T.cells X.told (k + 1) : Nat)), (0, _)], ?_, ⟨rfl, by rw [hls]; rfl, rfl, trivial⟩, ⟨k + 1, rfl, rfl, by omega, hS⟩⟩
      omega
    · rename_i h1
      rw [if_neg (by rw [hlb]; simpa using h1)] at hls
      refine LoopE.mk ⟨_, [(4, .int .i64 ((k + 1 : Nat) : Int)), (3, .int .i64 (lagK T.cells X.told (k + 1) : Nat)), (0, _)], ?_, ⟨rfl, by rw [hls]; rfl, rfl, trivial⟩, ⟨k + 1, rfl, rfl, by omega, hS⟩⟩
      omega
  · obtain rfl : k = 32 := by omega
    repeat' ((conv => whnf); first | refine RetC.mk ?_ | refine NzC.mk (by decide) ?_ | refine RngC.mk (by omega) (by omega) ?_ | refine IdxC.mk (by omega) (by omega) ?_ | refine brD (fun _ => ?_) (fun _ => ?_) | refine brND (fun _ => ?_) (fun _ => ?_) | refine brN (fun _ => ?_) (fun _ => ?_) | refine brI (fun _ => ?_) (fun _ => ?_))
    exact ⟨rfl, hS.ext⟩
end
end Go.Proofs.YteakdmngllfodaaDoor
