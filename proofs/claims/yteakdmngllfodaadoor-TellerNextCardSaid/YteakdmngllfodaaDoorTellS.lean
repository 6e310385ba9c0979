
/-
  Who tells: the plain laws.
-/
import Derived.Test.YteakdmngllfodaaDoorTableB
import Derived.Test.YteakdmngllfodaaDoorEvM
namespace Go.Proofs.YteakdmngllfodaaDoor
open Go Ev

def verAt (l : List CellS) (k : Nat) : Int := match l[k]? with
  | some c => c.ver
  | none => 0
def cellAt (l : List CellS) (k : Nat) : CellS := match l[k]? with
  | some c => c
  | none => ⟨0, 0, noFlow⟩
def toldAt (t : List Int) (k : Nat) : Int := match t[k]? with
  | some v => v
  | none => 0
def lagB (l : List CellS) (t : List Int) (k : Nat) : Bool := decide (verAt l k ≠ toldAt t k)
def pick1 (l : List CellS) (t : List Int) (n : Nat) : List Nat := ((List.range n).filter (lagB l t)).take 8
def tellAll (l : List CellS) (t : List Int) (p : List Nat) : List Int := p.foldl (fun t k => t.set k (verAt l k)) t
def stage2 : Nat → Nat → List Nat → Nat × List Nat
  | 0, c, p => (c, p)
  | n + 1, c, p => if p.length < 8 then stage2 n ((c + 1) % 32) (if c ∈ p then p else p ++ [c]) else (c, p)
structure TelS where
  told : List Int
  cursor : Nat
def TelS.picks (X : TelS) (l : List CellS) : List Nat := (stage2 32 X.cursor (pick1 l X.told 32)).2
def TelS.next (X : TelS) (l : List CellS) : TelS := ⟨tellAll l X.told (X.picks l), (stage2 32 X.cursor (pick1 l X.told 32)).1⟩
def outC (l : List CellS) (p : List Nat) : List CellS := p.map (cellAt l)
def lag (l : List CellS) (t : List Int) : Nat := ((List.range 32).filter (lagB l t)).length

theorem verAt_of {l : List CellS} {k : Nat} {c : CellS} (h : l[k]? = some c) : verAt l k = c.ver := by unfold verAt; rw [h]
theorem cellAt_of {l : List CellS} {k : Nat} {c : CellS} (h : l[k]? = some c) : cellAt l k = c := by unfold cellAt; rw [h]
theorem toldAt_of {t : List Int} {k : Nat} {v : Int} (h : t[k]? = some v) : toldAt t k = v := by unfold toldAt; rw [h]
theorem pick1_len (l : List CellS) (t : List Int) (n : Nat) : (pick1 l t n).length ≤ 8 := by
  unfold pick1
  rw [List.length_take]
  omega
theorem pick1_lt {l : List CellS} {t : List Int} {n k : Nat} (h : k ∈ pick1 l t n) : k < n := by
  have := List.mem_of_mem_take h
  simp at this
  exact this.1
theorem pick1_succ (l : List CellS) (t : List Int) (n : Nat) : pick1 l t (n + 1) = if lagB l t n = true ∧ (pick1 l t n).length < 8 then pick1 l t n ++ [n] else pick1 l t n := by
  unfold pick1
  rw [List.range_succ, List.filter_append]
  generalize (List.range n).filter (lagB l t) = xs
  cases h : lagB l t n
  · simp [h]
  · simp only [List.filter_cons, h, List.filter_nil, if_true, true_and, List.length_take]
    rw [List.take_append]
    by_cases h8 : xs.length < 8
    · rw [if_pos (by omega), List.take_of_length_le (by omega), List.take_of_length_le (by simp; omega)]
    · rw [if_neg (by omega), show 8 - xs.length = 0 by omega]
      simp
theorem pick1_nodup (l : List CellS) (t : List Int) (n : Nat) : (pick1 l t n).Nodup := by
  unfold pick1
  exact (List.take_sublist _ _).nodup ((List.filter_sublist).nodup List.nodup_range)
theorem tellAll_len (l : List CellS) : ∀ (p : List Nat) (t : List Int), (tellAll l t p).length = t.length
  | [], t => rfl
  | k :: p, t => by
    show (tellAll l (t.set k (verAt l k)) p).length = _
    rw [tellAll_len l p]
    exact List.length_set
theorem tellAll_app (l : List CellS) (t : List Int) (p : List Nat) (k : Nat) : tellAll l t (p ++ [k]) = (tellAll l t p).set k (verAt l k) := by
  unfold tellAll
  rw [List.foldl_append]
  rfl
theorem tellAll_at (l : List CellS) : ∀ (p : List Nat) (t : List Int) (k : Nat), k < t.length → (tellAll l t p)[k]? = some (if k ∈ p then verAt l k else toldAt t k)
  | [], t, k, h => by
    show t[k]? = _
    rw [List.getElem?_eq_getElem h, if_neg (by simp), toldAt_of (List.getElem?_eq_getElem h)]
  | j :: p, t, k, h => by
    show (tellAll l (t.set j (verAt l j)) p)[k]? = _
    rw [tellAll_at l p _ k (by simpa using h)]
    by_cases hk : k ∈ p
    · rw [if_pos hk, if_pos (by simp [hk])]
    · rw [if_neg hk]
      by_cases hj : k = j
      · subst hj
        rw [if_pos (by simp), toldAt_of (List.getElem?_set_self h)]
      · rw [if_neg (by simp [hk, hj])]
        unfold toldAt
        rw [List.getElem?_set_ne (fun e => hj e.symm)]
theorem tellAll_told {l : List CellS} {p : List Nat} {t : List Int} {k : Nat} (h : k < t.length) (hk : k ∉ p) : toldAt (tellAll l t p) k = toldAt t k := by
  rw [toldAt_of (tellAll_at l p t k h), if_neg hk]

theorem nodup_le : ∀ {l p : List Nat}, l.Nodup → (∀ x ∈ l, x ∈ p) → l.length ≤ p.length
  | [], p, _, _ => Nat.zero_le _
  | x :: l, p, hn, hs => by
    have hx := hs x (by simp)
    obtain ⟨h1, h2⟩ := List.nodup_cons.1 hn
    have := nodup_le (l := l) (p := p.erase x) h2 fun y hy => (List.mem_erase_of_ne (by rintro rfl; exact h1 hy)).2 (hs y (by simp [hy]))
    rw [List.length_erase_of_mem hx] at this
    have : 0 < p.length := List.length_pos_of_mem hx
    simp only [List.length_cons]
    omega
/-- The first pass, with no more than so many slots behind the cursor. -/
structure Swept (c0 j c : Nat) (p : List Nat) : Prop where
  cur : c = (c0 + j) % 32
  all : ∀ i, i < j → (c0 + i) % 32 ∈ p
theorem Swept.few {c0 j c : Nat} {p : List Nat} (h : Swept c0 j c p) (hc : c0 < 32) (hp : p.length < 8) : j < 32 := by
  by_cases hj : j < 32
  · exact hj
  · have : (List.range 32).length ≤ p.length := nodup_le List.nodup_range fun x hx => by
      have hx : x < 32 := List.mem_range.1 hx
      by_cases hle : c0 ≤ x
      · have := h.all (x - c0) (by omega)
        rwa [show (c0 + (x - c0)) % 32 = x by omega] at this
      · have := h.all (x + 32 - c0) (by omega)
        rwa [show (c0 + (x + 32 - c0)) % 32 = x by omega] at this
    simp at this
    omega
theorem Swept.step {c0 j c : Nat} {p : List Nat} (h : Swept c0 j c p) : Swept c0 (j + 1) ((c + 1) % 32) (if c ∈ p then p else p ++ [c]) := by
  have hc := h.cur
  refine ⟨by omega, fun i hi => ?_⟩
  have hsub : ∀ x, x ∈ p → x ∈ (if c ∈ p then p else p ++ [c]) := fun x hx => by
    split
    · exact hx
    · exact List.mem_append_left _ hx
  rcases Nat.lt_or_eq_of_le (Nat.le_of_lt_succ hi) with hi | rfl
  · exact hsub _ (h.all i hi)
  · rw [← hc]
    split
    · assumption
    · simp
theorem stage2_done {n c : Nat} {p : List Nat} (h : ¬ p.length < 8) : stage2 n c p = (c, p) := by
  cases n with
  | zero => rfl
  | succ n => unfold stage2; rw [if_neg h]
theorem stage2_step {n c : Nat} {p : List Nat} (h : p.length < 8) : stage2 (n + 1) c p = stage2 n ((c + 1) % 32) (if c ∈ p then p else p ++ [c]) := by
  conv => lhs; unfold stage2
  rw [if_pos h]
end Go.Proofs.YteakdmngllfodaaDoor
