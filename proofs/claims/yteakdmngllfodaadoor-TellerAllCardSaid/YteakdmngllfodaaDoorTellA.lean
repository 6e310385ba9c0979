
/-
  Whom the rounds reach: plain law.
-/
import Derived.Test.YteakdmngllfodaaDoorTellL
namespace Go.Proofs.YteakdmngllfodaaDoor
open Go Ev

/-- A cell that was never turned is empty. -/
structure ZOk (n : Nat) (T : MirS) : Prop extends TOk n T where
  zero : ∀ (k : Nat) c, T.cells[k]? = some c → c.ver = 0 → c = ⟨k, 0, noFlow⟩
theorem ZOk.succ {n : Nat} {T : MirS} (h : ZOk n T) : ZOk (n + 1) T := ⟨h.toTOk.succ, h.zero⟩
theorem ZOk.empty (F : Int) : ZOk 0 ⟨F, emptyCells⟩ := by
  refine ⟨TOk.empty F, fun k c hk _ => ?_⟩
  have hk : emptyCells[k]? = some c := hk
  have lt := (List.getElem?_eq_some_iff.1 hk).1
  rw [emptyCells_len] at lt
  rw [emptyCells_at lt] at hk
  cases hk
  rfl
theorem ZOk.set {n : Nat} {T : MirS} (h : ZOk n T) (s : Nat) (f : FlowS) : ZOk (n + 1) ⟨T.life, setF T.cells s f⟩ := by
  refine ⟨h.toTOk.set s f, fun k c hk h0 => ?_⟩
  have hk : (setF T.cells s f)[k]? = some c := hk
  unfold setF at hk
  cases hs : T.cells[s]? with
  | none => rw [hs] at hk; exact h.zero k c hk h0
  | some e =>
    rw [hs] at hk
    dsimp only at hk
    rw [List.getElem?_set] at hk
    have lt := (List.getElem?_eq_some_iff.1 hs).1
    by_cases h1 : s = k
    · rw [if_pos h1, if_pos lt] at hk
      cases hk
      have := h.ver e (List.mem_of_getElem? hs)
      dsimp only at h0
      omega
    · rw [if_neg h1] at hk
      exact h.zero k c hk h0
theorem ZOk.lay {n : Nat} {T : MirS} (h : ZOk n T) (f : FlowS) : ZOk (n + 1) (T.lay f).2 := by
  unfold MirS.lay
  split
  · exact h.succ
  · exact h.set _ _
theorem ZOk.add {n : Nat} {T : MirS} (h : ZOk n T) (pr ia ip fa fp st un : Int) : ZOk (n + 1) (T.add pr ia ip fa fp st un).2 := by
  unfold MirS.add
  split
  · exact h.succ
  · split
    · exact h.lay _
    · exact h.succ
theorem ZOk.setS {n : Nat} {T : MirS} (h : ZOk n T) (k st un : Int) : ZOk (n + 1) (T.setS k st un).2 := by
  unfold MirS.setS
  split
  · exact h.succ
  · exact h.set _ _
theorem ZOk.drop {n : Nat} {T : MirS} (h : ZOk n T) (k : Int) : ZOk (n + 1) (T.drop k).2 := by
  unfold MirS.drop
  split
  · exact h.succ
  · exact h.set _ _
theorem ZOk.cell {n : Nat} {T : MirS} (h : ZOk n T) {k : Nat} (hk : k < 32) : T.cells[k]? = some (cellAt T.cells k) ∧ (cellAt T.cells k).slot = k ∧ 0 ≤ (cellAt T.cells k).ver ∧ ((cellAt T.cells k).ver = 0 → cellAt T.cells k = ⟨k, 0, noFlow⟩) := by
  obtain ⟨d, hd⟩ : ∃ d, T.cells[k]? = some d := ⟨_, List.getElem?_eq_getElem (by rw [h.len]; exact hk)⟩
  rw [cellAt_of hd]
  exact ⟨hd, h.slot k d hd, (h.ver d (List.mem_of_getElem? hd)).1, h.zero k d hd⟩

/-- What a mirror knows. -/
structure Know (l : List CellS) (K : Nat → Prop) (M : List CellS) : Prop where
  len : M.length = 32
  yes : ∀ k : Nat, k < 32 → K k → M[k]? = some (cellAt l k)
  any : ∀ k : Nat, k < 32 → M[k]? = some (cellAt l k) ∨ M[k]? = some ⟨k, 0, noFlow⟩
theorem Know.none (l : List CellS) : Know l (fun _ => False) emptyCells := ⟨emptyCells_len, fun _ _ h => h.elim, fun _ h => .inr (emptyCells_at h)⟩
section
variable {n : Nat} {T : MirS} {K : Nat → Prop} {M : List CellS}
theorem Know.put (h : Know T.cells K M) (hO : ZOk n T) {k : Nat} (hk : k < 32) : Know T.cells (fun i => K i ∨ i = k) (put1C M (cellAt T.cells k)) := by
  obtain ⟨h1, h2, h3, h4⟩ := hO.cell hk
  generalize hc : cellAt T.cells k = c at *
  have hn : c.slot.toNat = k := by omega
  have keep : M[k]? = some c → Know T.cells (fun i => K i ∨ i = k) M := fun hM => ⟨h.len, fun i hi hK => by
    rcases hK with hK | rfl
    · exact h.yes i hi hK
    · rw [hM, hc], h.any⟩
  unfold put1C
  rw [hn]
  have hany := h.any k hk
  rw [hc] at hany
  rcases hany with hM | hM
  · rw [hM]
    dsimp only
    rw [if_neg (by omega)]
    exact keep hM
  · rw [hM]
    dsimp only
    by_cases hv : c.ver > 0
    · rw [if_pos hv]
      refine ⟨by rw [List.length_set]; exact h.len, fun i hi hK => ?_, fun i hi => ?_⟩
      · rw [List.getElem?_set]
        by_cases e : k = i
        · subst e
          rw [if_pos rfl, if_pos (by rw [h.len]; exact hk), hc]
        · rw [if_neg e]
          exact h.yes i hi (hK.resolve_right fun x => e x.symm)
      · rw [List.getElem?_set]
        by_cases e : k = i
        · subst e
          rw [if_pos rfl, if_pos (by rw [h.len]; exact hk), hc]
          exact .inl rfl
        · rw [if_neg e]
          exact h.any i hi
    · rw [if_neg hv]
      exact keep (by rw [hM, h4 (by omega)])
theorem Know.more {K' : Nat → Prop} (h : Know T.cells K M) (hk : ∀ k, K' k → K k) : Know T.cells K' M := ⟨h.len, fun k hk' hK => h.yes k hk' (hk k hK), h.any⟩
theorem Know.puts (hO : ZOk n T) : ∀ {p : List Nat} {K : Nat → Prop} {M : List CellS}, Know T.cells K M → (∀ x ∈ p, x < 32) → Know T.cells (fun i => K i ∨ i ∈ p) ((outC T.cells p).foldl put1C M)
  | [], K, M, h, _ => h.more fun k hk => hk.resolve_right (by simp)
  | x :: p, K, M, h, hp => by
    have h1 := h.put hO (hp x (by simp))
    have h2 := Know.puts hO h1 (p := p) fun y hy => hp y (by simp [hy])
    refine Know.more h2 fun k hk => ?_
    rcases hk with hk | hk
    · exact .inl (.inl hk)
    · rcases List.mem_cons.1 hk with rfl | hk
      · exact .inl (.inr rfl)
      · exact .inr hk
theorem Know.full (h : Know T.cells K M) (hO : ZOk n T) (hK : ∀ k, k < 32 → K k) : M = T.cells := by
  apply List.ext_getElem?
  intro i
  by_cases hi : i < 32
  · rw [h.yes i hi (hK i hi), (hO.cell hi).1]
  · rw [List.getElem?_eq_none (by rw [h.len]; omega), List.getElem?_eq_none (by rw [hO.len]; omega)]

/-- A mirror is told what a teller tells. -/
theorem tell_know {m : MirS} {p : List Nat} (h : Know T.cells K m.cells) (hm : m.life = 1 ∨ (m.life = 0 ∧ m.cells = emptyCells)) (hO : ZOk n T) (hp : ∀ x ∈ p, x < 32) (h8 : p.length = 8) :
    (m.tell 1 (outC T.cells p)).1 = 0 ∧ (m.tell 1 (outC T.cells p)).2.life = 1 ∧ Know T.cells (fun i => K i ∨ i ∈ p) (m.tell 1 (outC T.cells p)).2.cells := by
  have hbad : ¬ ((1 : Int) < 1 ∨ (outC T.cells p).length > 8 ∨ (outC T.cells p).any badSlot = true) := by
    rintro (h1 | h1 | h1)
    · omega
    · simp [outC] at h1; omega
    · rw [List.any_eq_true] at h1
      obtain ⟨c, hc, hb⟩ := h1
      obtain ⟨k, hk, rfl⟩ := List.mem_map.1 hc
      have := hp k hk
      have h2 := (hO.cell this).2.1
      unfold badSlot at hb
      rw [h2] at hb
      simp at hb
      omega
  unfold MirS.tell
  rw [if_neg hbad, if_neg (by omega)]
  have hbase : (if (1 : Int) > m.life then emptyCells else m.cells) = m.cells := by
    rcases hm with h1 | ⟨h1, h2⟩
    · rw [if_neg (by omega)]
    · rw [if_pos (by omega), h2]
  refine ⟨rfl, ?_, ?_⟩
  · dsimp only
    rcases hm with h1 | ⟨h1, h2⟩
    · rw [if_neg (by omega), h1]
    · rw [if_pos (by omega)]
  · show Know T.cells _ ((outC T.cells p).foldl put1C (if (1 : Int) > m.life then emptyCells else m.cells))
    rw [hbase]
    exact h.puts hO hp

/-- From the fourth round on: whom the rounds have reached. -/
def Cov (i cur : Nat) (K : Nat → Prop) : Prop := 4 ≤ i → ∃ c4, c4 < 32 ∧ cur = (c4 + 8 * (i - 4)) % 32 ∧ ∀ m, m < 8 * (i - 4) → K ((c4 + m) % 32)
theorem Cov.step {i : Nat} {X : TelS} {l : List CellS} (hc : X.cursor < 32) (hlag : lag l X.told ≤ 32 - 8 * i) (h : Cov i X.cursor K) : Cov (i + 1) (X.next l).cursor (fun k => K k ∨ k ∈ X.picks l) := by
  intro h4
  by_cases hi : 4 ≤ i
  · obtain ⟨c4, h1, h2, h3⟩ := h hi
    obtain ⟨e1, e2⟩ := calm hc (show lag l X.told = 0 by omega)
    refine ⟨c4, h1, by rw [e1, h2]; omega, fun m hm => ?_⟩
    by_cases hm2 : m < 8 * (i - 4)
    · exact .inl (h3 m hm2)
    · right
      rw [e2, List.mem_map]
      refine ⟨m - 8 * (i - 4), List.mem_range.2 (by omega), ?_⟩
      rw [h2]
      omega
  · obtain rfl : i = 3 := by omega
    exact ⟨(X.next l).cursor, (picks_law l hc).cur, by have := (picks_law l hc).cur; omega, fun m hm => absurd hm (by omega)⟩
theorem Cov.full {cur : Nat} (h : Cov 9 cur K) : ∀ k, k < 32 → K k := by
  intro k hk
  obtain ⟨c4, h1, _, h3⟩ := h (by omega)
  by_cases hle : c4 ≤ k
  · have := h3 (k - c4) (by omega)
    rwa [show (c4 + (k - c4)) % 32 = k by omega] at this
  · have := h3 (k + 32 - c4) (by omega)
    rwa [show (c4 + (k + 32 - c4)) % 32 = k by omega] at this
end
end Go.Proofs.YteakdmngllfodaaDoor
