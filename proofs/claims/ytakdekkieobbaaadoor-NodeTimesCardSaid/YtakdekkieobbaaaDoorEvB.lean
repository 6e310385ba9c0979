
/-
  Soundness of the evaluator's pure operations.
-/
import Derived.Test.YtakdekkieobbaaaDoorEvA
import Derived.Laws.BitsLemmas
namespace Go.Proofs.YtakdekkieobbaaaDoor.Ev
open Go

/-- In whatever world the operation yields v and does nothing else. -/
def Yv (P : Program) (o : Oper) (a : Act) (v : Value) : Prop := ∀ w, (execOp a.eval o).run P w = .ok (.value v) w

section
variable {P : Program} {τ : Tab} {N : Nat} {σ : Slots} {a : Act}

theorem yv_of {s : Sem Value} {v : Value} (h : ∀ w, s.run P w = .ok v w) (w : World) : (do pure (Next.value (← s)) : Sem Next).run P w = .ok (.value v) w := by
  simp [h w, Result.andThen]

theorem wrap_in {n : Int} (h1 : -9223372036854775808 ≤ n) (h2 : n ≤ 9223372036854775807) : IntKind.i64.wrap n = n := by
  rw [IntKind.wrap_i64]; omega

theorem eqGuard_plain (op : BinOp) (t : TypeId) (x y : Operand) (u v : Value) (h : ∀ cs, u ≠ .agg cs) (h' : u ≠ .nilIface) (w : World) : (eqGuard op t x y u v).run P w = .ok () w := by
  unfold eqGuard
  cases op <;> first | rfl | (cases u <;> first | rfl | exact absurd rfl h' | exact absurd rfl (h _))

theorem bin_run {op : BinOp} {t : TypeId} {x y : Operand} {u v r : Value} (h : ∀ cs, u ≠ .agg cs) (h' : u ≠ .nilIface) (hr : ∀ w, (Go.binOp op t u v).run P w = .ok r w) (w : World) :
    (do eqGuard op t x y u v; Go.binOp op t u v : Sem Value).run P w = .ok r w := by
  rw [Sem.run_bind, eqGuard_plain op t x y u v h h' w]
  exact hr w

theorem bin64_sound {op : BinOp} {x y : Int} {k : Value → Prop} (t : TypeId) (h : bin64 P op x y k) : ∃ v, (∀ w, (Go.binOp op t (.int .i64 x) (.int .i64 y)).run P w = .ok v w) ∧ k v := by
  cases op
  case add => exact ⟨_, fun w => by simp [Go.binOp, Op.intArith, wrap_in h.lo h.hi], h.go⟩
  case sub => exact ⟨_, fun w => by simp [Go.binOp, Op.intArith, wrap_in h.lo h.hi], h.go⟩
  case mul => exact ⟨_, fun w => by simp [Go.binOp, Op.intArith, wrap_in h.lo h.hi], h.go⟩
  case eql => exact ⟨_, fun w => rfl, h⟩
  case neq => exact ⟨_, fun w => rfl, h⟩
  case lss => exact ⟨_, fun w => rfl, h⟩
  case leq => exact ⟨_, fun w => rfl, h⟩
  case gtr => exact ⟨_, fun w => rfl, h⟩
  case geq => exact ⟨_, fun w => rfl, h⟩
  case and => exact ⟨_, fun w => rfl, h⟩
  case rem => exact ⟨_, fun w => by simp [Go.binOp, Op.intDiv, h.ne], h.go⟩
  case quo => exact ⟨_, fun w => by simp [Go.binOp, Op.intDiv, h.ne, wrap_in h.go.lo h.go.hi], h.go.go⟩
  all_goals
    obtain ⟨v, hv, hk⟩ := h.ex
    exact ⟨v, fun w => by rw [← hv w]; rfl, hk⟩

theorem under_of {i : TI} {t : TypeId} (hτ : TabOk P τ) (h : tl τ t = some i) : kindB P t i.kind = true := (hτ t i h).kind

theorem under_bool {t : TypeId} (h : kindB P t .bool = true) : P.underlying t = some .bool := by
  simp only [kindB] at h; split at h <;> simp_all
theorem under_iface {t : TypeId} (h : kindB P t .iface = true) : ∃ ms, P.underlying t = some (.interface ms) := by
  simp only [kindB] at h; split at h <;> simp_all
theorem under_ptr {t : TypeId} (h : kindB P t .ptr = true) : ∃ e, P.underlying t = some (.pointer e) := by
  simp only [kindB] at h; split at h <;> simp_all
theorem under_slice {t e esz : Nat} {g : Bool} (h : kindB P t (.slice e esz g) = true) : P.underlying t = some (.slice e) ∧ P.cellsOf e = esz ∧ aggB P e = g ∧ (P.info? e).isSome = true ∧ ∃ d, P.underlying e = some d := by
  simp only [kindB] at h
  split at h
  · rename_i e' hu
    simp only [Bool.and_eq_true, beq_iff_eq] at h
    obtain ⟨⟨⟨⟨rfl, h2⟩, h3⟩, h4⟩, h5⟩ := h
    exact ⟨hu, h2, h3, h4, Option.isSome_iff_exists.1 h5⟩
  · cases h
theorem under_arr {t n e esz : Nat} {g : Bool} (h : kindB P t (.arr n e esz g) = true) : P.underlying t = some (.array n e) ∧ P.cellsOf e = esz ∧ aggB P e = g ∧ (P.info? e).isSome = true ∧ ∃ d, P.underlying e = some d := by
  simp only [kindB] at h
  split at h
  · rename_i n' e' hu
    simp only [Bool.and_eq_true, beq_iff_eq] at h
    obtain ⟨⟨⟨⟨⟨rfl, rfl⟩, h2⟩, h3⟩, h4⟩, h5⟩ := h
    exact ⟨hu, h2, h3, h4, Option.isSome_iff_exists.1 h5⟩
  · cases h
theorem under_str {t : TypeId} (h : kindB P t .str = true) : P.underlying t = some .string := by
  simp only [kindB] at h; split at h <;> simp_all
theorem under_struct {t : TypeId} {fs : List (Nat × Nat × Bool)} (h : kindB P t (.struct fs) = true) :
    ∃ F, P.underlying t = some (.struct F) ∧ F.size = fs.length ∧ ∀ (i off sz : Nat) (g : Bool), fs[i]? = some (off, sz, g) → ∃ f : Field, F[i]? = some f ∧ f.offset = off ∧ P.cellsOf f.type = sz ∧ aggB P f.type = g ∧ (P.info? f.type).isSome = true ∧ (∃ d, P.underlying f.type = some d) ∧ sz ≠ 0 := by
  simp only [kindB] at h
  split at h
  · rename_i F hu
    simp only [Bool.and_eq_true, beq_iff_eq, List.all_eq_true] at h
    obtain ⟨h1, h2⟩ := h
    refine ⟨F, hu, by rw [← h1]; simp [fieldsOf], fun i off sz g hi => ?_⟩
    rw [← h1] at hi
    simp only [fieldsOf, List.getElem?_map, Option.map_eq_some_iff, Prod.mk.injEq] at hi
    obtain ⟨f, hf, rfl, rfl, rfl⟩ := hi
    have hf' : F[i]? = some f := by simpa using hf
    have hm : f ∈ F.toList := List.mem_of_getElem? hf
    have := h2 f hm
    simp only [bne_iff_ne, ne_eq] at this
    exact ⟨f, hf', rfl, rfl, rfl, this.1.1, Option.isSome_iff_exists.1 this.1.2, this.2⟩
  · cases h

section eqs
variable {P : Program} {t : TypeId} {w : World}
theorem eqIn_bool (d : Nat) (hu : P.underlying t = some .bool) (a b : Bool) : (Op.equalIn (d + 1) t (.bool a) (.bool b)).run P w = .ok (a == b) w := by
  simp [Op.equalIn, underlying, hu]
theorem eqIn_nn (d : Nat) {ms : Array (String × TypeId)} (hu : P.underlying t = some (.interface ms)) : (Op.equalIn (d + 1) t .nilIface .nilIface).run P w = .ok true w := by
  simp [Op.equalIn, underlying, hu]
theorem eqIn_in (d : Nat) {ms : Array (String × TypeId)} (hu : P.underlying t = some (.interface ms)) (u : TypeId) (v : Value) : (Op.equalIn (d + 1) t (.iface u v) .nilIface).run P w = .ok false w := by
  simp [Op.equalIn, underlying, hu]
theorem eqIn_pn (d : Nat) {e : TypeId} (hu : P.underlying t = some (.pointer e)) (p : Option Addr) : (Op.equalIn (d + 1) t (.pointer p) (.pointer none)).run P w = .ok p.isNone w := by
  cases p <;> simp [Op.equalIn, underlying, hu]
theorem eqIn_sn (d : Nat) {e : TypeId} (hu : P.underlying t = some (.slice e)) (p : Option Addr) (n c n' c' : Nat) : (Op.equalIn (d + 1) t (.slice p n c) (.slice none n' c')).run P w = .ok p.isNone w := by
  cases p <;> simp [Op.equalIn, underlying, hu]
theorem eql_of {x y : Value} {b : Bool} (h : ∀ w, (Op.equalIn (9999 + 1) t x y).run P w = .ok b w) (w : World) : (do pure (.bool (← Op.equal t x y)) : Sem Value).run P w = .ok (.bool b) w := by
  have : ∀ w, (Op.equal t x y).run P w = .ok b w := h
  simp [this w]
theorem neq_of {x y : Value} {b : Bool} (h : ∀ w, (Op.equalIn (9999 + 1) t x y).run P w = .ok b w) (w : World) : (do pure (.bool (!(← Op.equal t x y))) : Sem Value).run P w = .ok (.bool (!b)) w := by
  have : ∀ w, (Op.equal t x y).run P w = .ok b w := h
  simp [this w]
end eqs

theorem pBin_sound (hτ : TabOk P τ) {op : BinOp} {t : TypeId} {x y : Operand} {u v : Value} {k : Value → Prop} (h : pBin P τ op t (isConstO y) u v k) :
    ∃ r, (∀ w, (do eqGuard op t x y u v; Go.binOp op t u v : Sem Value).run P w = .ok r w) ∧ k r := by
  unfold pBin at h
  split at h
  · obtain ⟨r, hr, hk⟩ := bin64_sound t h
    exact ⟨r, bin_run (by simp) (by simp) hr, hk⟩
  · split at h
    · rename_i hi
      have hu := under_bool (under_of hτ hi)
      split at h
      · exact ⟨_, bin_run (by simp) (by simp) (eql_of fun w => eqIn_bool 9999 hu _ _), h⟩
      · exact ⟨_, bin_run (by simp) (by simp) (neq_of fun w => eqIn_bool 9999 hu _ _), h⟩
      · exact h.elim
    · exact h.elim
  · split at h
    · rename_i hi hc
      obtain ⟨ms, hu⟩ := under_iface (under_of hτ hi)
      have hcy : ∃ z, y = .const z := by
        cases y <;> simp [isConstO] at hc
        exact ⟨_, rfl⟩
      obtain ⟨z, rfl⟩ := hcy
      split at h
      · refine ⟨_, fun w => ?_, h⟩
        have e : (eqGuard .eql t x (.const z) .nilIface .nilIface).run P w = .ok () w := by simp [eqGuard]
        rw [Sem.run_bind, e]
        exact eql_of (fun w => eqIn_nn 9999 hu) w
      · refine ⟨_, fun w => ?_, h⟩
        have e : (eqGuard .neq t x (.const z) .nilIface .nilIface).run P w = .ok () w := by simp [eqGuard]
        rw [Sem.run_bind, e]
        exact neq_of (b := true) (fun w => eqIn_nn 9999 hu) w
      · exact h.elim
    · exact h.elim
  · split at h
    · rename_i hi
      obtain ⟨ms, hu⟩ := under_iface (under_of hτ hi)
      split at h
      · exact ⟨_, bin_run (by simp) (by simp) (eql_of fun w => eqIn_in 9999 hu _ _), h⟩
      · exact ⟨_, bin_run (by simp) (by simp) (neq_of (b := false) fun w => eqIn_in 9999 hu _ _), h⟩
      · exact h.elim
    · exact h.elim
  · rename_i p
    split at h
    · rename_i hi
      obtain ⟨e, hu⟩ := under_ptr (under_of hτ hi)
      split at h
      · exact ⟨_, bin_run (by simp) (by simp) (eql_of fun w => eqIn_pn 9999 hu _), h⟩
      · exact ⟨_, bin_run (by simp) (by simp) (neq_of fun w => eqIn_pn 9999 hu _), h⟩
      · exact h.elim
    · exact h.elim
  · rename_i p _ _ _ _
    split at h
    · rename_i hi
      obtain ⟨hu, _⟩ := under_slice (under_of hτ hi)
      split at h
      · exact ⟨_, bin_run (by simp) (by simp) (eql_of fun w => eqIn_sn 9999 hu _ _ _ _ _), h⟩
      · exact ⟨_, bin_run (by simp) (by simp) (neq_of fun w => eqIn_sn 9999 hu _ _ _ _ _), h⟩
      · exact h.elim
    · exact h.elim
  · obtain ⟨r, hr, hk⟩ := h.ex
    exact ⟨r, fun w => by rw [← hr w]; unfold eqGuard; rfl, hk⟩
  · obtain ⟨r, hr, hk⟩ := h.ex
    exact ⟨r, bin_run (by simp) (by simp) hr, hk⟩
  · obtain ⟨r, hr, hk⟩ := h.ex
    exact ⟨r, bin_run (by simp) (by simp) hr, hk⟩
  · exact h.elim
end
end Go.Proofs.YtakdekkieobbaaaDoor.Ev
