
/-
  What a cell's bytes hold when a write was cut: plain law.
-/
import Derived.Test.YteakdmngllfodaaDoorCellP
namespace Go.Proofs.YteakdmngllfodaaDoor
open Go Ev

def laid (d : List UInt8) (p : Nat) (s : List UInt8) : List UInt8 := d.take p ++ s ++ d.drop (p + s.length)
theorem laid_nil (d : List UInt8) (p : Nat) : laid d p [] = d := by simp [laid]
theorem laid_len {d s : List UInt8} {p : Nat} (h : p + s.length ≤ d.length) : (laid d p s).length = d.length := by
  simp only [laid, List.length_append, List.length_take, List.length_drop]
  omega
theorem laid_at {d s : List UInt8} {p : Nat} (h : p + s.length ≤ d.length) (i : Nat) : (laid d p s)[i]? = if p ≤ i ∧ i < p + s.length then s[i - p]? else d[i]? := by
  unfold laid
  by_cases h1 : i < p
  · rw [if_neg (by omega), List.append_assoc, List.getElem?_append_left (by rw [List.length_take]; omega), List.getElem?_take_of_lt h1]
  · by_cases h2 : i < p + s.length
    · rw [if_pos ⟨by omega, h2⟩, List.append_assoc, List.getElem?_append_right (by rw [List.length_take]; omega), List.length_take, Nat.min_eq_left (by omega), List.getElem?_append_left (by omega)]
    · rw [if_neg (by omega), List.getElem?_append_right (by simp only [List.length_append, List.length_take]; omega)]
      simp only [List.length_append, List.length_take, List.getElem?_drop]
      congr 1
      omega
theorem laid_cons {d r : List UInt8} {p : Nat} {x : UInt8} (h : p + (r.length + 1) ≤ d.length) : laid (d.set p x) (p + 1) r = laid d p (x :: r) := by
  apply List.ext_getElem?
  intro i
  rw [laid_at (by rw [List.length_set]; omega), laid_at (by rw [List.length_cons]; omega), List.length_cons, List.getElem?_set]
  by_cases h1 : p + 1 ≤ i ∧ i < p + 1 + r.length
  · rw [if_pos h1, if_pos (by omega), show i - p = (i - (p + 1)) + 1 by omega, List.getElem?_cons_succ]
  · rw [if_neg h1]
    by_cases h2 : p = i
    · subst h2
      rw [if_pos rfl, if_pos (by omega), if_pos (by omega), Nat.sub_self]
      rfl
    · rw [if_neg h2, if_neg (by omega)]
/-- What a write leaves. -/
theorem write_law : ∀ (s : List UInt8) (B : BytS) (p : Nat), p + s.length ≤ B.data.length →
    ((B.write p s).1 = true ∧ (B.write p s).2.data = laid B.data p s ∧ (B.write p s).2.off = B.off) ∨ ((B.write p s).1 = false ∧ (B.write p s).2.off = true ∧ ∃ j, j < s.length ∧ (B.write p s).2.data = laid B.data p (s.take j))
  | [], B, p, _ => .inl ⟨rfl, (laid_nil _ _).symm, rfl⟩
  | x :: r, B, p, h => by
    rw [write_cons]
    rw [List.length_cons] at h
    split
    · exact .inr ⟨rfl, rfl, 0, by simp, by simp [laid_nil]⟩
    · rcases write_law r ⟨B.data.set p x, B.off, if B.left - 1 > -1 then B.left - 1 else -1⟩ (p + 1) (by dsimp only; rw [List.length_set]; omega) with ⟨h1, h2, h3⟩ | ⟨h1, h2, j, hj, h3⟩
      · exact .inl ⟨h1, by rw [h2]; exact laid_cons h, h3⟩
      · refine .inr ⟨h1, h2, j + 1, by simp; omega, ?_⟩
        rw [h3, List.take_succ_cons]
        exact laid_cons (by rw [List.length_take]; omega)

theorem recK_at {d : List UInt8} {k j : Nat} (hj : j < 17) : (recK d k)[j]? = d[k * 20 + j]? := by
  unfold recK
  rw [List.getElem?_take_of_lt hj, List.getElem?_drop]
theorem recK_ext {d d' : List UInt8} {k : Nat} (h : ∀ j, j < 17 → d[k * 20 + j]? = d'[k * 20 + j]?) : recK d k = recK d' k := by
  apply List.ext_getElem?
  intro j
  by_cases hj : j < 17
  · rw [recK_at hj, recK_at hj, h j hj]
  · unfold recK
    rw [List.getElem?_take, List.getElem?_take, if_neg hj, if_neg hj]
theorem recK_other {d s : List UInt8} {p k m : Nat} (h : p + s.length ≤ d.length) (hk : k < 2) (hm : m < 2) (hne : m ≠ k) (h1 : k * 20 ≤ p) (h2 : p + s.length ≤ k * 20 + 17) : recK (laid d p s) m = recK d m :=
  recK_ext fun j hj => by rw [laid_at h, if_neg (by omega)]
theorem full_ext {d d' : List UInt8} {k : Nat} (h : recK d k = recK d' k) : (fullK d k ↔ fullK d' k) ∧ recN d k = recN d' k ∧ recE d k = recE d' k ∧ recL d k = recL d' k := by
  unfold fullK recN recE recL
  rw [h]
  exact ⟨Iff.rfl, rfl, rfl, rfl⟩
theorem full_mark {d : List UInt8} {k : Nat} (h : fullK d k) : d[k * 20 + 16]? = some 165 := by
  rw [← recK_at (by omega), ← h.2.2, List.getElem?_append_right (by rw [bodyB_len]; omega), bodyB_len]
  rfl
theorem full_new {d : List UInt8} {k n e l : Nat} (h : recK d k = bodyB n e l ++ [165]) (hn : 1 ≤ n) (hk : n % 2 = k) (h1 : n < 4294967296) (h2 : e < 4294967296) (h3 : l < 4294967296) : fullK d k ∧ recN d k = n ∧ recE d k = e ∧ recL d k = l := by
  have e0 : bodyB n e l ++ [165] = numB n 4 ++ (numB e 4 ++ (numB l 4 ++ (numB (sumB (headB n e l)) 4 ++ [165]))) := by simp [bodyB, headB]
  have e1 : recN d k = n := by
    unfold recN
    rw [h, e0, List.take_left' (numB_len _ _), valB_num]
    omega
  have e2 : recE d k = e := by
    unfold recE
    rw [h, e0, List.drop_left' (numB_len _ _), List.take_left' (numB_len _ _), valB_num]
    omega
  have e3 : recL d k = l := by
    unfold recL
    rw [h, e0, ← List.append_assoc, List.drop_left' (by rw [List.length_append, numB_len, numB_len]), List.take_left' (numB_len _ _), valB_num]
    omega
  exact ⟨⟨by omega, by omega, by rw [e1, e2, e3, h]⟩, e1, e2, e3⟩

def rec_ (d : List UInt8) (k : Nat) : CelS := ⟨recN d k, recE d k, recL d k, false⟩
def zeroC : CelS := ⟨0, 0, 0, false⟩
theorem open_none {d : List UInt8} (h : ∀ k, k < 2 → ¬ fullK d k) : openS d = zeroC := by
  have h0 := h 0 (by omega)
  have h1 := h 1 (by omega)
  simp [openS, openN, openK, h0, h1, zeroC]
theorem open_one {d : List UInt8} {k m : Nat} (hkm : k < 2 ∧ m < 2 ∧ m ≠ k) (h : fullK d k) (hm : fullK d m → recN d m < recN d k) : openS d = rec_ d k := by
  have hn := h.1
  obtain ⟨hk, hm2, hne⟩ := hkm
  have : (k = 0 ∧ m = 1) ∨ (k = 1 ∧ m = 0) := by omega
  rcases this with ⟨rfl, rfl⟩ | ⟨rfl, rfl⟩
  · simp only [openS, openN]
    rw [show openK d 0 ⟨0, 0, 0, false⟩ = rec_ d 0 from if_pos ⟨h, hn⟩]
    exact if_neg fun hh => by have := hm hh.1; have := hh.2; simp only [rec_] at this; omega
  · simp only [openS, openN]
    by_cases h0 : fullK d 0
    · rw [show openK d 0 ⟨0, 0, 0, false⟩ = rec_ d 0 from if_pos ⟨h0, h0.1⟩]
      exact if_pos ⟨h, hm h0⟩
    · rw [show openK d 0 ⟨0, 0, 0, false⟩ = ⟨0, 0, 0, false⟩ from if_neg fun hh => h0 hh.1]
      exact if_pos ⟨h, hn⟩
theorem open_cases (d : List UInt8) : ((∀ k, k < 2 → ¬ fullK d k) ∧ openS d = zeroC) ∨ ∃ k m, (k < 2 ∧ m < 2 ∧ m ≠ k) ∧ fullK d k ∧ openS d = rec_ d k ∧ (fullK d m → recN d m < recN d k) := by
  by_cases h0 : fullK d 0
  · by_cases h1 : fullK d 1
    · have p0 := h0.2.1
      have p1 := h1.2.1
      by_cases hlt : recN d 1 < recN d 0
      · exact .inr ⟨0, 1, by omega, h0, open_one ⟨by omega, by omega, by omega⟩ h0 fun _ => hlt, fun _ => hlt⟩
      · have hlt : recN d 0 < recN d 1 := by omega
        exact .inr ⟨1, 0, by omega, h1, open_one ⟨by omega, by omega, by omega⟩ h1 fun _ => hlt, fun _ => hlt⟩
    · exact .inr ⟨0, 1, by omega, h0, open_one ⟨by omega, by omega, by omega⟩ h0 fun h => absurd h h1, fun h => absurd h h1⟩
  · by_cases h1 : fullK d 1
    · exact .inr ⟨1, 0, by omega, h1, open_one ⟨by omega, by omega, by omega⟩ h1 fun h => absurd h h0, fun h => absurd h h0⟩
    · have hn : ∀ k, k < 2 → ¬ fullK d k := fun k hk => by
        have : k = 0 ∨ k = 1 := by omega
        rcases this with rfl | rfl
        · exact h0
        · exact h1
      exact .inl ⟨hn, open_none hn⟩
theorem openS_dead (d : List UInt8) : (openS d).dead = false := by
  rcases open_cases d with ⟨_, h⟩ | ⟨k, m, _, _, h, _⟩ <;> rw [h] <;> rfl

/-- The slot of the number that comes next was spoilt. -/
theorem open_spoilt {d d' : List UInt8} {k m : Nat} (hk : k = ((openS d).num + 1) % 2) (hm : m = (openS d).num % 2) (h : recK d' m = recK d m) (hf : ¬ fullK d' k) : openS d' = openS d := by
  obtain ⟨f1, f2, f3, f4⟩ := full_ext h
  rcases open_cases d with ⟨hn, hz⟩ | ⟨k1, m1, hkm, hfull, ho, hlt⟩
  · rw [hz]
    refine open_none fun i hi hfi => ?_
    by_cases e : i = k
    · subst e; exact hf hfi
    · have : i = m := by omega
      subst this
      exact hn i hi (f1.1 hfi)
  · have hp := hfull.2.1
    have hnum : (openS d).num = recN d k1 := by rw [ho]; rfl
    obtain rfl : m = k1 := by omega
    have hfm := f1.2 hfull
    have hkk : k < 2 ∧ k ≠ m := by omega
    rw [open_one (m := k) ⟨by omega, hkk.1, hkk.2⟩ hfm fun hh => absurd hh hf, ho]
    unfold rec_
    rw [f2, f3, f4]
/-- It was written. -/
theorem open_written {d d' : List UInt8} {k m n e l : Nat} (hn : n = (openS d).num + 1) (hk : k = n % 2) (hm : m = (openS d).num % 2) (h : recK d' m = recK d m) (hr : recK d' k = bodyB n e l ++ [165]) (h1 : n < 4294967296) (h2 : e < 4294967296) (h3 : l < 4294967296) : openS d' = ⟨n, e, l, false⟩ := by
  obtain ⟨f1, f2, f3, f4⟩ := full_ext h
  obtain ⟨g1, g2, g3, g4⟩ := full_new hr (by omega) hk.symm h1 h2 h3
  have hkm : m < 2 ∧ m ≠ k := by omega
  rw [open_one (m := m) ⟨by omega, hkm.1, hkm.2⟩ g1 fun hh => ?_]
  · unfold rec_
    rw [g2, g3, g4]
  · rw [g2, f2]
    have hh := f1.1 hh
    rcases open_cases d with ⟨hn2, _⟩ | ⟨k1, m1, hkm1, hfull, ho, hlt⟩
    · exact absurd hh (hn2 m (by omega))
    · have hnum : (openS d).num = recN d k1 := by rw [ho]; rfl
      by_cases e : m = k1
      · subst e; omega
      · obtain rfl : m = m1 := by omega
        have := hlt hh
        omega

theorem mark_law {B : BytS} {q : Nat} (hq : q < B.data.length) :
    ((mark B q).1 = true ∧ (mark B q).2.off = B.off ∧ (mark B q).2.data.length = B.data.length ∧ (mark B q).2.data[q]? = some 0 ∧ ∀ i, i ≠ q → (mark B q).2.data[i]? = B.data[i]?) ∨ ((mark B q).1 = false ∧ (mark B q).2.off = true ∧ (mark B q).2.data = B.data) := by
  obtain ⟨x, hx⟩ : ∃ x, B.data[q]? = some x := ⟨_, List.getElem?_eq_getElem hq⟩
  unfold mark
  rw [hx]
  dsimp only
  split
  · rename_i h0
    exact .inl ⟨rfl, rfl, rfl, by rw [← h0]; exact hx, fun _ _ => rfl⟩
  · rcases write_law [0] B q (by simp; omega) with ⟨h1, h2, h3⟩ | ⟨h1, h2, j, hj, h3⟩
    · refine .inl ⟨h1, h3, by rw [h2, laid_len (by simp; omega)], ?_, fun i hi => ?_⟩
      · rw [h2, laid_at (by simp; omega), if_pos (by simp), Nat.sub_self]
        rfl
      · rw [h2, laid_at (by simp; omega), if_neg (by simp; omega)]
    · refine .inr ⟨h1, h2, ?_⟩
      obtain rfl : j = 0 := by simpa using hj
      rw [h3, List.take_zero, laid_nil]
theorem not_full {d : List UInt8} {k : Nat} (h : d[k * 20 + 16]? = some 0) : ¬ fullK d k := fun hf => by
  rw [full_mark hf] at h
  simp at h
theorem cwrite_law {B : BytS} {e l : Nat} (hO : BOk B) (hoff : B.off = false) (hn : (openS B.data).num + 1 < 4294967296) (he : e < 4294967296) (hl : l < 4294967296) :
    ((cwrite B ((openS B.data).num + 1) e l).1 = true ∧ openS (cwrite B ((openS B.data).num + 1) e l).2.data = ⟨(openS B.data).num + 1, e, l, false⟩ ∧ (cwrite B ((openS B.data).num + 1) e l).2.off = false) ∨
    ((cwrite B ((openS B.data).num + 1) e l).1 = false ∧ openS (cwrite B ((openS B.data).num + 1) e l).2.data = openS B.data ∧ (cwrite B ((openS B.data).num + 1) e l).2.off = true) := by
  have hlen := hO.len
  obtain ⟨n, hnn⟩ : ∃ n, n = (openS B.data).num + 1 := ⟨_, rfl⟩
  obtain ⟨k, hk⟩ : ∃ k, k = n % 2 := ⟨_, rfl⟩
  obtain ⟨m, hm⟩ : ∃ m, m = (openS B.data).num % 2 := ⟨_, rfl⟩
  rw [← hnn] at hn ⊢
  have hkm : k < 2 ∧ m < 2 ∧ m ≠ k := by omega
  have hbl := bodyB_len n e l
  unfold cwrite
  rw [if_neg (show ¬ B.off = true by simp [hoff]), ← hk]
  have same : ∀ d : List UInt8, (∀ i, ¬ (k * 20 ≤ i ∧ i < k * 20 + 17) → d[i]? = B.data[i]?) → recK d m = recK B.data m := fun d h => recK_ext fun j hj => h _ (by omega)
  rcases mark_law (B := B) (q := k * 20 + 16) (by omega) with ⟨a1, a2, a3, a4, a5⟩ | ⟨a1, a2, a3⟩
  · rw [if_pos a1]
    generalize (mark B (k * 20 + 16)).2 = B1 at a2 a3 a4 a5
    rcases write_law (bodyB n e l) B1 (k * 20) (by omega) with ⟨b1, b2, b3⟩ | ⟨b1, b2, j, hj, b3⟩
    · rw [if_pos b1]
      generalize (B1.write (k * 20) (bodyB n e l)).2 = B2 at b2 b3
      have c0 : ∀ i, B2.data[i]? = if k * 20 ≤ i ∧ i < k * 20 + 16 then (bodyB n e l)[i - k * 20]? else B1.data[i]? := fun i => by rw [b2, laid_at (by omega), hbl]
      have c1 : B2.data.length = 64 := by rw [b2, laid_len (by omega), a3, hlen]
      rcases write_law [165] B2 (k * 20 + 16) (by simp; omega) with ⟨d1, d2, d3⟩ | ⟨d1, d2, j, hj, d3⟩
      · refine .inl ⟨d1, ?_, by rw [d3, b3, a2, hoff]⟩
        rw [d2]
        refine open_written hnn hk hm (same _ fun i hi => ?_) ?_ hn he hl
        · rw [laid_at (by simp; omega), if_neg (by simp; omega), c0, if_neg (by omega), a5 i (by omega)]
        · apply List.ext_getElem?
          intro j
          by_cases hj : j < 17
          · rw [recK_at hj, laid_at (by simp; omega)]
            by_cases hj2 : j = 16
            · subst hj2
              rw [if_pos (by simp), List.getElem?_append_right (by omega), hbl]
              simp
            · rw [if_neg (by simp; omega), c0, if_pos (by omega), List.getElem?_append_left (by omega)]
              congr 1
              omega
          · rw [List.getElem?_eq_none (by unfold recK; rw [List.length_take]; omega), List.getElem?_eq_none (by rw [List.length_append, hbl]; simp; omega)]
      · refine .inr ⟨d1, ?_, d2⟩
        obtain rfl : j = 0 := by simpa using hj
        rw [d3, List.take_zero, laid_nil]
        refine open_spoilt (hnn ▸ hk) hm (same _ fun i hi => ?_) (not_full ?_)
        · rw [c0, if_neg (by omega), a5 i (by omega)]
        · rw [c0, if_neg (by omega), a4]
    · rw [if_neg (by simp [b1])]
      refine .inr ⟨rfl, ?_, b2⟩
      dsimp only
      have hjl : (List.take j (bodyB n e l)).length = j := by rw [List.length_take]; omega
      rw [b3]
      refine open_spoilt (hnn ▸ hk) hm (same _ fun i hi => ?_) (not_full ?_)
      · rw [laid_at (by omega), if_neg (by omega), a5 i (by omega)]
      · rw [laid_at (by omega), if_neg (by omega), a4]
  · rw [if_neg (by simp [a1])]
    exact .inr ⟨rfl, by rw [a3], a2⟩
end Go.Proofs.YteakdmngllfodaaDoor
