
/-
  What an argument that can be read says, where its type is made of numbers, truth values and strings alone.
-/
import Derived.Test.YtakdekkieobbaaaDoorEvJ
namespace Go.Proofs.YtakdekkieobbaaaDoor.Ev
open Go

def I64 (n : Int) : Prop := -9223372036854775808 ≤ n ∧ n ≤ 9223372036854775807
def Pr.ok : Pr → Prop
  | .int n => I64 n
  | .bool _ => True
  | .str s => s.size ≤ maxLen

section
variable {P : Program} {w : World}
theorem shp_flatFs {rec_ : TypeId → Option (List PK)} {D : Nat} {cs : List Value} (IH : ∀ (t : TypeId) (ks : List PK) (cs : List Value), rec_ t = some ks → P.cellsOf t = ks.length → Shp P w D t cs → ∃ ps : List Pr, cs = ps.map Pr.v ∧ ps.map Pr.k = ks ∧ ∀ p ∈ ps, p.ok) :
    ∀ (fs : List Field) (off : Nat) (ks : List PK), flatFs P rec_ fs off = some ks → (∀ f ∈ fs, Shp P w D f.type ((cs.drop f.offset).take (P.cellsOf f.type))) → ∃ ps : List Pr, (cs.drop off).take ks.length = ps.map Pr.v ∧ ps.map Pr.k = ks ∧ ∀ p ∈ ps, p.ok := by
  intro fs
  induction fs with
  | nil =>
    intro off ks h _
    simp only [flatFs, Option.some.injEq] at h
    subst h
    exact ⟨[], by simp, rfl, by simp⟩
  | cons f r ih =>
    intro off ks h hs
    unfold flatFs at h
    split at h
    · cases h
    · rename_i hc
      simp only [Bool.and_eq_true, bne_iff_ne, ne_eq, beq_iff_eq] at hc
      obtain ⟨⟨⟨_, rfl⟩, _⟩, _⟩ := hc
      split at h
      · cases h
      · rename_i k hk
        split at h
        · cases h
        · rename_i hcs
          simp only [Bool.and_eq_true, Bool.or_eq_true, beq_iff_eq] at hcs
          obtain ⟨ks', hr, rfl⟩ := Option.map_eq_some_iff.1 h
          obtain ⟨ps, h1, h2, h3⟩ := IH f.type k _ hk hcs.1 (hs f (by simp))
          obtain ⟨qs, h4, h5, h6⟩ := ih (f.offset + k.length) ks' hr (fun g hg => hs g (by simp [hg]))
          refine ⟨ps ++ qs, ?_, by rw [List.map_append, h2, h5], ?_⟩
          · rw [hcs.1] at h1
            rw [List.length_append, List.take_add, List.drop_drop, h1, h4, List.map_append]
          · intro p hp
            rcases List.mem_append.1 hp with hp | hp
            · exact h3 p hp
            · exact h6 p hp
theorem shp_flat : ∀ (d : Nat) (D : Nat) (t : TypeId) (ks : List PK) (cs : List Value), flatK P d t = some ks → d ≤ D → P.cellsOf t = ks.length → Shp P w D t cs → ∃ ps : List Pr, cs = ps.map Pr.v ∧ ps.map Pr.k = ks ∧ ∀ p ∈ ps, p.ok := by
  intro d
  induction d with
  | zero => intro D t ks cs h; simp [flatK] at h
  | succ d ih =>
    intro D t ks cs h hD hc hs
    obtain ⟨D, rfl⟩ : ∃ D', D = D' + 1 := ⟨D - 1, by omega⟩
    unfold Shp at hs
    unfold flatK at h
    split at h
    · rename_i hu
      rw [hu] at hs
      simp only [Option.some.injEq] at h
      subst h
      obtain ⟨n, rfl, hw⟩ := hs
      refine ⟨[.int n], rfl, rfl, ?_⟩
      intro p hp
      obtain rfl := List.mem_singleton.1 hp
      have h1 : IntKind.i64.min = -9223372036854775808 := rfl
      have h2 : IntKind.i64.max = 9223372036854775807 := rfl
      simp only [Lit.wf, Bool.and_eq_true, decide_eq_true_eq] at hw
      show I64 n
      unfold I64
      omega
    · rename_i hu
      rw [hu] at hs
      simp only [Option.some.injEq] at h
      subst h
      obtain ⟨n, rfl⟩ := hs
      exact ⟨[.bool n], rfl, rfl, by intro p hp; obtain rfl := List.mem_singleton.1 hp; trivial⟩
    · rename_i hu
      rw [hu] at hs
      simp only [Option.some.injEq] at h
      subst h
      obtain ⟨n, rfl, hn⟩ := hs
      exact ⟨[.str n], rfl, rfl, by intro p hp; obtain rfl := List.mem_singleton.1 hp; exact hn⟩
    · rename_i fs hu
      rw [hu] at hs
      split at h
      · cases h
      · obtain ⟨hl, hf⟩ := hs
        obtain ⟨ps, h1, h2, h3⟩ := shp_flatFs (w := w) (D := D) (cs := cs) (fun t ks cs h hc hs => ih D t ks cs h (by omega) hc hs) fs.toList 0 ks h (fun f hf' => by
          obtain ⟨i, hi⟩ := List.mem_iff_getElem?.1 hf'
          exact hf i f (by simpa using hi))
        refine ⟨ps, ?_, h2, h3⟩
        rw [List.drop_zero, List.take_of_length_le (by omega)] at h1
        exact h1
    · cases h

/-! The depth stands apart ('e = d + 1'), that nothing is reckoned out at a closed type. -/
theorem shp_struct {e d : Nat} {t : TypeId} {fs : Array Field} {cs : List Value} (he : e = d + 1) (hu : P.underlying t = some (.struct fs)) (h : Shp P w e t cs) : cs.length = P.cellsOf t ∧ ∀ (i : Nat) (f : Field), fs[i]? = some f → Shp P w d f.type ((cs.drop f.offset).take (P.cellsOf f.type)) := by
  subst he
  unfold Shp at h
  rw [hu] at h
  exact h
theorem shp_slice {e d : Nat} {t u : TypeId} {v : Value} (he : e = d + 1) (hu : P.underlying t = some (.slice u)) (h : Shp P w e t [v]) : ∃ a n c, v = .slice a n c := by
  subst he
  unfold Shp at h
  rw [hu] at h
  rcases h with h1 | ⟨a, n, c, h1, _⟩
  · simp only [List.cons.injEq, and_true] at h1; exact ⟨_, _, _, h1⟩
  · simp only [List.cons.injEq, and_true] at h1; exact ⟨_, _, _, h1⟩
theorem shp_int {e d : Nat} {t : TypeId} {cs : List Value} (he : e = d + 1) (hu : P.underlying t = some (.int .i64)) (h : Shp P w e t cs) : ∃ n, cs = [.int .i64 n] ∧ I64 n := by
  subst he
  exact dec_int hu cs h
theorem shp_slc {α : Type} {e d : Nat} {t u : TypeId} {sz : Nat} {enc : α → List Value} {G : α → Prop} {a : Option Addr} {n c : Nat} (he : e = d + 1) (hu : P.underlying t = some (.slice u)) (hc : P.cellsOf u = sz) (hsz : 0 < sz) (hd : Dec P w d u enc G) (h : Shp P w e t [.slice a n c]) : ∃ xs, Slc w sz enc G a n xs ∧ n ≤ c := by
  subst he
  exact slc_of hu hc hsz hd h
theorem len2 {α : Type} {l : List α} (h : l.length = 2) : ∃ x y, l = [x, y] := by
  match l, h with
  | [x, y], _ => exact ⟨x, y, rfl⟩
theorem kinds_cons {l : List Pr} {k : PK} {ks : List PK} (h : l.map Pr.k = k :: ks) : ∃ p r, l = p :: r ∧ p.k = k ∧ r.map Pr.k = ks := by
  cases l with
  | nil => cases h
  | cons p r =>
    simp only [List.map_cons, List.cons.injEq] at h
    exact ⟨p, r, rfl, h.1, h.2⟩
theorem kinds_nil {l : List Pr} (h : l.map Pr.k = []) : l = [] := by simpa using h
theorem k_int {p : Pr} (h : p.k = .int) : ∃ n, p = .int n := by cases p <;> simp [Pr.k] at h; exact ⟨_, rfl⟩
theorem k_bool {p : Pr} (h : p.k = .bool) : ∃ n, p = .bool n := by cases p <;> simp [Pr.k] at h; exact ⟨_, rfl⟩
theorem k_str {p : Pr} (h : p.k = .str) : ∃ n, p = .str n := by cases p <;> simp [Pr.k] at h; exact ⟨_, rfl⟩
theorem kinds_ints : ∀ (n : Nat) {l : List Pr} {ks : List PK}, l.map Pr.k = List.replicate n .int ++ ks → ∃ (ns : List Int) (r : List Pr), l = ns.map .int ++ r ∧ ns.length = n ∧ r.map Pr.k = ks
  | 0, l, ks, h => ⟨[], l, rfl, rfl, by simpa using h⟩
  | n + 1, l, ks, h => by
    rw [List.replicate_succ, List.cons_append] at h
    obtain ⟨p, r, rfl, hp, hr⟩ := kinds_cons h
    obtain ⟨i, rfl⟩ := k_int hp
    obtain ⟨ns, r', rfl, h2, h3⟩ := kinds_ints n hr
    exact ⟨i :: ns, r', rfl, by simp [h2], h3⟩
theorem arg_flat {W : World} {t : TypeId} {fs : Array Field} {ks : List PK} {v : Value} (hu : P.underlying t = some (.struct fs)) (hk : flatK P 10 t = some ks) (hc : P.cellsOf t = ks.length) (h : ArgOk P W t v) : ∃ ps : List Pr, v = .agg (ps.map Pr.v).toArray ∧ ps.map Pr.k = ks ∧ ∀ p ∈ ps, p.ok := by
  obtain ⟨⟨base, h1⟩, h2⟩ := h
  obtain ⟨cs, rfl, _⟩ := Go.WideShapes.okWide_struct hu h1
  obtain ⟨d, hd⟩ : ∃ d, 10 ≤ d := ⟨10, Nat.le_refl _⟩
  obtain ⟨ps, h3, h4, h5⟩ := shp_flat 10 d t ks cs.toList hk hd hc (h2 d)
  refine ⟨ps, ?_, h4, h5⟩
  rw [← h3]
end
end Go.Proofs.YtakdekkieobbaaaDoor.Ev
