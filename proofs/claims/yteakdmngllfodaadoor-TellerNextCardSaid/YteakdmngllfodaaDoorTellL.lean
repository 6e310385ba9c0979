
/-
  Who is told in a round: eight, each once; how many wait behind it; whom the rounds reach.
-/
import Derived.Test.YteakdmngllfodaaDoorTellS
import Derived.Test.YteakdmngllfodaaDoorMirror
namespace Go.Proofs.YteakdmngllfodaaDoor
open Go Ev

structure S2 (c0 : Nat) (p z : List Nat) (c : Nat) : Prop where
  len : z.length = 8
  nd : z.Nodup
  lt : ∀ x ∈ z, x < 32
  sub : ∀ x ∈ p, x ∈ z
  cur : c < 32
theorem stage2_law {c0 : Nat} (hc0 : c0 < 32) : ∀ (n j c : Nat) (p : List Nat), n + j = 32 → Swept c0 j c p → c < 32 → p.length ≤ 8 → p.Nodup → (∀ x ∈ p, x < 32) → S2 c0 p (stage2 n c p).2 (stage2 n c p).1
  | n, j, c, p, hn, hs, hc, hp, hd, hl => by
    by_cases h8 : p.length < 8
    · have hj := hs.few hc0 h8
      obtain ⟨m, rfl⟩ : ∃ m, n = m + 1 := ⟨n - 1, by omega⟩
      rw [stage2_step h8]
      have ih := stage2_law hc0 m (j + 1) ((c + 1) % 32) (if c ∈ p then p else p ++ [c]) (by omega) hs.step (Nat.mod_lt _ (by omega)) (by
          split
          · exact hp
          · simp
            omega)
        (by
          split
          · exact hd
          · rename_i h
            rw [List.nodup_append]
            exact ⟨hd, by simp, fun a ha b hb => by simp at hb; subst hb; rintro rfl; exact h ha⟩)
        (by
          split
          · exact hl
          · intro x hx
            rcases List.mem_append.1 hx with h | h
            · exact hl x h
            · simp at h; omega)
      refine ⟨ih.len, ih.nd, ih.lt, fun x hx => ih.sub x ?_, ih.cur⟩
      split
      · exact hx
      · exact List.mem_append_left _ hx
    · rw [stage2_done h8]
      exact ⟨by dsimp only; omega, hd, hl, fun _ h => h, hc⟩
theorem picks_law {X : TelS} (l : List CellS) (hc : X.cursor < 32) : S2 X.cursor (pick1 l X.told 32) (X.picks l) (X.next l).cursor :=
  stage2_law hc 32 0 X.cursor _ rfl ⟨by omega, fun i hi => absurd hi (Nat.not_lt_zero _)⟩ hc (pick1_len _ _ _) (pick1_nodup _ _ _) fun _ h => pick1_lt h

theorem lagB_tell (l : List CellS) (t : List Int) (p : List Nat) {k : Nat} (h : k < t.length) : lagB l (tellAll l t p) k = (lagB l t k && decide (k ∉ p)) := by
  unfold lagB
  rw [toldAt_of (tellAll_at l p t k h)]
  by_cases hk : k ∈ p
  · rw [if_pos hk]; simp [hk]
  · rw [if_neg hk]; simp [hk]
theorem filter_drop {xs : List Nat} (hn : xs.Nodup) : ∀ n, (xs.filter fun k => decide (k ∉ xs.take n)) = xs.drop n := by
  induction xs with
  | nil => intro n; simp
  | cons x xs ih =>
    intro n
    obtain ⟨h1, h2⟩ := List.nodup_cons.1 hn
    cases n with
    | zero => simp
    | succ n =>
      rw [List.take_succ_cons, List.drop_succ_cons, ← ih h2 n, List.filter_cons_of_neg (by simp)]
      apply List.filter_congr
      intro y hy
      have : y ≠ x := by rintro rfl; exact h1 hy
      simp [this]
/-- How many wait when a round is over. -/
theorem lag_next {X : TelS} (l : List CellS) (hc : X.cursor < 32) (ht : X.told.length = 32) : lag l (X.next l).told = lag l X.told - 8 := by
  have hp := picks_law l hc
  have e : lag l (X.next l).told = (((List.range 32).filter (lagB l X.told)).filter fun k => decide (k ∉ X.picks l)).length := by
    unfold lag
    rw [List.filter_filter]
    congr 1
    apply List.filter_congr
    intro k hk
    show lagB l (tellAll l X.told (X.picks l)) k = _
    rw [lagB_tell l X.told (X.picks l) (by rw [ht]; exact List.mem_range.1 hk)]
    cases lagB l X.told k <;> simp
  rw [e]
  unfold lag
  by_cases h8 : 8 ≤ ((List.range 32).filter (lagB l X.told)).length
  · have h1 : X.picks l = ((List.range 32).filter (lagB l X.told)).take 8 := by
      unfold TelS.picks
      rw [stage2_done (by unfold pick1; rw [List.length_take]; omega)]
      rfl
    rw [h1, filter_drop ((List.filter_sublist).nodup List.nodup_range), List.length_drop]
  · have h1 : pick1 l X.told 32 = (List.range 32).filter (lagB l X.told) := List.take_of_length_le (by omega)
    have h2 : (((List.range 32).filter (lagB l X.told)).filter fun k => decide (k ∉ X.picks l)) = [] := by
      rw [List.filter_eq_nil_iff]
      intro k hk
      have := hp.sub k (by rw [h1]; exact hk)
      simp [this]
    rw [h2]
    simp
    omega
theorem lag_le (l : List CellS) (t : List Int) : lag l t ≤ 32 := by
  unfold lag
  refine Nat.le_trans (List.length_filter_le _ _) ?_
  simp
theorem lag_zero {l : List CellS} {t : List Int} (h : lag l t = 0) : pick1 l t 32 = [] := by
  unfold pick1
  rw [List.eq_nil_of_length_eq_zero h]
  rfl
theorem told_next {X : TelS} (l : List CellS) (ht : X.told.length = 32) : (X.next l).told.length = 32 := (tellAll_len l _ _).trans ht
/-- A round in which no one waits goes on from the cursor. -/
theorem stage2_calm : ∀ c, c < 32 → stage2 32 c [] = ((c + 8) % 32, (List.range 8).map fun i => (c + i) % 32) := by decide +kernel
theorem calm {X : TelS} {l : List CellS} (hc : X.cursor < 32) (h : lag l X.told = 0) : (X.next l).cursor = (X.cursor + 8) % 32 ∧ X.picks l = (List.range 8).map fun i => (X.cursor + i) % 32 := by
  have := stage2_calm X.cursor hc
  unfold TelS.next TelS.picks
  rw [lag_zero h, this]
  exact ⟨rfl, rfl⟩
end Go.Proofs.YteakdmngllfodaaDoor
