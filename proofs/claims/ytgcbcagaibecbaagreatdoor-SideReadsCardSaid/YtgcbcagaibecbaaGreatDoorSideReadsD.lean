/-
  Texts of this claim, joined: EvB, EvC, EvD, EvE, EvF, Tab, PoolW.
-/
import Derived.Test.YtgcbcagaibecbaaGreatDoorSideReadsC
import Derived.Laws.BitsLemmas
import Derived.Tactics
import Derived.Test.YtgcbcagaibecbaaGreatDoorProg
set_option linter.unusedSectionVars false
set_option linter.unusedSimpArgs false
set_option linter.unusedVariables false

namespace Go.Proofs.YtgcbcagaibecbaaGreatDoor.Ev
set_option maxRecDepth 20000
open Go Gap
variable [Go.Proofs.YtgcbcagaibecbaaGreatDoor.Gap.Leaps]

def Yv (P : Program) (o : Oper) (a : Act) (v : Value) : Prop := ∀ w, (execOp a.eval o).run P w = .ok (.value v) w

section
variable {P : Program} {τ : Tab} {N : Nat} {σ : Slots} {a : Act}

theorem yv_of {s : Sem Value} {v : Value} (h : ∀ w, s.run P w = .ok v w) (w : World) : (do pure (Next.value (← s)) : Sem Next).run P w = .ok (.value v) w := by
  simp [h w, Result.andThen]

theorem wrap_in {n : Int} (h1 : -9223372036854775808 ≤ n) (h2 : n ≤ 9223372036854775807) : IntKind.i64.wrap n = n := by
  rw [IntKind.wrap_i64]; omega

theorem eqGuard_plain (op : BinOp) (t : TypeId) (x y : Operand) (u v : Value) (h : ∀ cs, u ≠ .agg cs) (h' : u ≠ .nilIface) (w : World) : (eqGuard op t x y u v).run P w = .ok () w := by
  unfold eqGuard
  cases op <;> first | rfl | (cases u <;> first | rfl | exact absurd rfl h' | exact absurd rfl (h _))

theorem bin_run {op : BinOp} {t : TypeId} {x y : Operand} {u v r : Value} (h : ∀ cs, u ≠ .agg cs) (h' : u ≠ .nilIface) (hr : ∀ w, (Go.binOp op t u v).run P w = .ok r w) (w : World) :
    (do eqGuard op t x y u v; Go.binOp op t u v : Sem Value).run P w = .ok r w := by
  rw [Sem.run_bind, eqGuard_plain op t x y u v h h' w]
  exact hr w

theorem bin64_sound {op : BinOp} {x y : Int} {k : Value → Prop} (t : TypeId) (h : bin64 P op x y k) : ∃ v, (∀ w, (Go.binOp op t (.int .i64 x) (.int .i64 y)).run P w = .ok v w) ∧ k v := by
  cases op
  case add => exact ⟨_, fun w => by simp [Go.binOp, Op.intArith, wrap_in h.lo h.hi], h.go⟩
  case sub => exact ⟨_, fun w => by simp [Go.binOp, Op.intArith, wrap_in h.lo h.hi], h.go⟩
  case mul => exact ⟨_, fun w => by simp [Go.binOp, Op.intArith, wrap_in h.lo h.hi], h.go⟩
  case eql => exact ⟨_, fun w => rfl, h⟩
  case neq => exact ⟨_, fun w => rfl, h⟩
  case lss => exact ⟨_, fun w => rfl, h⟩
  case leq => exact ⟨_, fun w => rfl, h⟩
  case gtr => exact ⟨_, fun w => rfl, h⟩
  case geq => exact ⟨_, fun w => rfl, h⟩
  case and => exact ⟨_, fun w => rfl, h⟩
  case rem => exact ⟨_, fun w => by simp [Go.binOp, Op.intDiv, h.ne], h.go⟩
  case quo => exact ⟨_, fun w => by simp [Go.binOp, Op.intDiv, h.ne, wrap_in h.go.lo h.go.hi], h.go.go⟩
  all_goals
    obtain ⟨v, hv, hk⟩ := h.ex
    exact ⟨v, fun w => by rw [← hv w]; rfl, hk⟩

theorem under_of {i : TI} {t : TypeId} (hτ : TabOk P τ) (h : tl τ t = some i) : kindB P t i.kind = true := (hτ t i h).kind

theorem under_bool {t : TypeId} (h : kindB P t .bool = true) : P.underlying t = some .bool := by
  simp only [kindB] at h; split at h <;> simp_all
theorem under_iface {t : TypeId} (h : kindB P t .iface = true) : ∃ ms, P.underlying t = some (.interface ms) := by
  simp only [kindB] at h; split at h <;> simp_all
theorem under_ptr {t : TypeId} (h : kindB P t .ptr = true) : ∃ e, P.underlying t = some (.pointer e) := by
  simp only [kindB] at h; split at h <;> simp_all
theorem under_slice {t e esz : Nat} {g : Bool} (h : kindB P t (.slice e esz g) = true) : P.underlying t = some (.slice e) ∧ P.cellsOf e = esz ∧ aggB P e = g ∧ (P.info? e).isSome = true ∧ ∃ d, P.underlying e = some d := by
  simp only [kindB] at h
  split at h
  · rename_i e' hu
    simp only [Bool.and_eq_true, beq_iff_eq] at h
    obtain ⟨⟨⟨⟨rfl, h2⟩, h3⟩, h4⟩, h5⟩ := h
    exact ⟨hu, h2, h3, h4, Option.isSome_iff_exists.1 h5⟩
  · cases h
theorem under_arr {t n e esz : Nat} {g : Bool} (h : kindB P t (.arr n e esz g) = true) : P.underlying t = some (.array n e) ∧ P.cellsOf e = esz ∧ aggB P e = g ∧ (P.info? e).isSome = true ∧ ∃ d, P.underlying e = some d := by
  simp only [kindB] at h
  split at h
  · rename_i n' e' hu
    simp only [Bool.and_eq_true, beq_iff_eq] at h
    obtain ⟨⟨⟨⟨⟨rfl, rfl⟩, h2⟩, h3⟩, h4⟩, h5⟩ := h
    exact ⟨hu, h2, h3, h4, Option.isSome_iff_exists.1 h5⟩
  · cases h
theorem under_str {t : TypeId} (h : kindB P t .str = true) : P.underlying t = some .string := by
  simp only [kindB] at h; split at h <;> simp_all
theorem under_struct {t : TypeId} {fs : List (Nat × Nat × Bool)} (h : kindB P t (.struct fs) = true) :
    ∃ F, P.underlying t = some (.struct F) ∧ F.size = fs.length ∧ ∀ (i off sz : Nat) (g : Bool), fs[i]? = some (off, sz, g) → ∃ f : Field, F[i]? = some f ∧ f.offset = off ∧ P.cellsOf f.type = sz ∧ aggB P f.type = g ∧ (P.info? f.type).isSome = true ∧ (∃ d, P.underlying f.type = some d) ∧ sz ≠ 0 := by
  simp only [kindB] at h
  split at h
  · rename_i F hu
    simp only [Bool.and_eq_true, beq_iff_eq, List.all_eq_true] at h
    obtain ⟨h1, h2⟩ := h
    refine ⟨F, hu, by rw [← h1]; simp [fieldsOf], fun i off sz g hi => ?_⟩
    rw [← h1] at hi
    simp only [fieldsOf, List.getElem?_map, Option.map_eq_some_iff, Prod.mk.injEq] at hi
    obtain ⟨f, hf, rfl, rfl, rfl⟩ := hi
    have hf' : F[i]? = some f := by simpa using hf
    have hm : f ∈ F.toList := List.mem_of_getElem? hf
    have := h2 f hm
    simp only [bne_iff_ne, ne_eq] at this
    exact ⟨f, hf', rfl, rfl, rfl, this.1.1, Option.isSome_iff_exists.1 this.1.2, this.2⟩
  · cases h

section eqs
variable {P : Program} {t : TypeId} {w : World}
theorem eqIn_bool (d : Nat) (hu : P.underlying t = some .bool) (a b : Bool) : (Op.equalIn (d + 1) t (.bool a) (.bool b)).run P w = .ok (a == b) w := by
  simp [Op.equalIn, underlying, hu]
theorem eqIn_nn (d : Nat) {ms : Array (String × TypeId)} (hu : P.underlying t = some (.interface ms)) : (Op.equalIn (d + 1) t .nilIface .nilIface).run P w = .ok true w := by
  simp [Op.equalIn, underlying, hu]
theorem eqIn_in (d : Nat) {ms : Array (String × TypeId)} (hu : P.underlying t = some (.interface ms)) (u : TypeId) (v : Value) : (Op.equalIn (d + 1) t (.iface u v) .nilIface).run P w = .ok false w := by
  simp [Op.equalIn, underlying, hu]
theorem eqIn_pn (d : Nat) {e : TypeId} (hu : P.underlying t = some (.pointer e)) (p : Option Addr) : (Op.equalIn (d + 1) t (.pointer p) (.pointer none)).run P w = .ok p.isNone w := by
  cases p <;> simp [Op.equalIn, underlying, hu]
theorem eqIn_sn (d : Nat) {e : TypeId} (hu : P.underlying t = some (.slice e)) (p : Option Addr) (n c n' c' : Nat) : (Op.equalIn (d + 1) t (.slice p n c) (.slice none n' c')).run P w = .ok p.isNone w := by
  cases p <;> simp [Op.equalIn, underlying, hu]
theorem eql_of {x y : Value} {b : Bool} (h : ∀ w, (Op.equalIn (9999 + 1) t x y).run P w = .ok b w) (w : World) : (do pure (.bool (← Op.equal t x y)) : Sem Value).run P w = .ok (.bool b) w := by
  have : ∀ w, (Op.equal t x y).run P w = .ok b w := h
  simp [this w]
theorem neq_of {x y : Value} {b : Bool} (h : ∀ w, (Op.equalIn (9999 + 1) t x y).run P w = .ok b w) (w : World) : (do pure (.bool (!(← Op.equal t x y))) : Sem Value).run P w = .ok (.bool (!b)) w := by
  have : ∀ w, (Op.equal t x y).run P w = .ok b w := h
  simp [this w]
end eqs

theorem pBin_sound (hτ : TabOk P τ) {op : BinOp} {t : TypeId} {x y : Operand} {u v : Value} {k : Value → Prop} (h : pBin P τ op t (isConstO y) u v k) :
    ∃ r, (∀ w, (do eqGuard op t x y u v; Go.binOp op t u v : Sem Value).run P w = .ok r w) ∧ k r := by
  unfold pBin at h
  split at h
  · obtain ⟨r, hr, hk⟩ := bin64_sound t h
    exact ⟨r, bin_run (by simp) (by simp) hr, hk⟩
  · split at h
    · rename_i hi
      have hu := under_bool (under_of hτ hi)
      split at h
      · exact ⟨_, bin_run (by simp) (by simp) (eql_of fun w => eqIn_bool 9999 hu _ _), h⟩
      · exact ⟨_, bin_run (by simp) (by simp) (neq_of fun w => eqIn_bool 9999 hu _ _), h⟩
      · exact h.elim
    · exact h.elim
  · split at h
    · rename_i hi hc
      obtain ⟨ms, hu⟩ := under_iface (under_of hτ hi)
      have hcy : ∃ z, y = .const z := by
        cases y <;> simp [isConstO] at hc
        exact ⟨_, rfl⟩
      obtain ⟨z, rfl⟩ := hcy
      split at h
      · refine ⟨_, fun w => ?_, h⟩
        have e : (eqGuard .eql t x (.const z) .nilIface .nilIface).run P w = .ok () w := by simp [eqGuard]
        rw [Sem.run_bind, e]
        exact eql_of (fun w => eqIn_nn 9999 hu) w
      · refine ⟨_, fun w => ?_, h⟩
        have e : (eqGuard .neq t x (.const z) .nilIface .nilIface).run P w = .ok () w := by simp [eqGuard]
        rw [Sem.run_bind, e]
        exact neq_of (b := true) (fun w => eqIn_nn 9999 hu) w
      · exact h.elim
    · exact h.elim
  · split at h
    · rename_i hi
      obtain ⟨ms, hu⟩ := under_iface (under_of hτ hi)
      split at h
      · exact ⟨_, bin_run (by simp) (by simp) (eql_of fun w => eqIn_in 9999 hu _ _), h⟩
      · exact ⟨_, bin_run (by simp) (by simp) (neq_of (b := false) fun w => eqIn_in 9999 hu _ _), h⟩
      · exact h.elim
    · exact h.elim
  · rename_i p
    split at h
    · rename_i hi
      obtain ⟨e, hu⟩ := under_ptr (under_of hτ hi)
      split at h
      · exact ⟨_, bin_run (by simp) (by simp) (eql_of fun w => eqIn_pn 9999 hu _), h⟩
      · exact ⟨_, bin_run (by simp) (by simp) (neq_of fun w => eqIn_pn 9999 hu _), h⟩
      · exact h.elim
    · exact h.elim
  · rename_i p _ _ _ _
    split at h
    · rename_i hi
      obtain ⟨hu, _⟩ := under_slice (under_of hτ hi)
      split at h
      · exact ⟨_, bin_run (by simp) (by simp) (eql_of fun w => eqIn_sn 9999 hu _ _ _ _ _), h⟩
      · exact ⟨_, bin_run (by simp) (by simp) (neq_of fun w => eqIn_sn 9999 hu _ _ _ _ _), h⟩
      · exact h.elim
    · exact h.elim
  · obtain ⟨r, hr, hk⟩ := h.ex
    exact ⟨r, fun w => by rw [← hr w]; unfold eqGuard; rfl, hk⟩
  · obtain ⟨r, hr, hk⟩ := h.ex
    exact ⟨r, bin_run (by simp) (by simp) hr, hk⟩
  · obtain ⟨r, hr, hk⟩ := h.ex
    exact ⟨r, bin_run (by simp) (by simp) hr, hk⟩
  · obtain ⟨r, hr, hk⟩ := h.ex
    exact ⟨r, bin_run (by simp) (by simp) hr, hk⟩
  · exact h.elim

theorem plain_v {s : Sem Value} (h : Plain P s) : Plain P (do pure (Next.value (← s)) : Sem Next) := plain_bind h fun _ => trivial
theorem plain_guard {op : BinOp} {t : TypeId} {x y : Operand} {u v : Value} (h : ∀ cs, u ≠ .agg cs) (h' : u ≠ .nilIface) {s : Sem Value} (hs : Plain P s) : Plain P (do eqGuard op t x y u v; s : Sem Value) := by
  have e : ∀ op, eqGuard op t x y u v = (pure () : Sem Unit) := fun op => by
    unfold eqGuard
    cases op <;> first | rfl | (cases u <;> first | rfl | exact absurd rfl h' | exact absurd rfl (h _))
  rw [e]
  exact hs
theorem plain_eq {t : TypeId} {x y : Value} (h : Plain P (Op.equalIn (9999 + 1) t x y)) : Plain P (do pure (.bool (← Op.equal t x y)) : Sem Value) := plain_bind (s := Op.equal t x y) h fun _ => trivial
theorem plain_ne {t : TypeId} {x y : Value} (h : Plain P (Op.equalIn (9999 + 1) t x y)) : Plain P (do pure (.bool (!(← Op.equal t x y))) : Sem Value) := plain_bind (s := Op.equal t x y) h fun _ => trivial
section eqs
variable {t : TypeId}
theorem plain_eqBool (hu : P.underlying t = some .bool) (a b : Bool) : Plain P (Op.equalIn (9999 + 1) t (.bool a) (.bool b)) := by
  unfold Op.equalIn
  exact plain_under_of hu trivial
theorem plain_eqNN {ms : Array (String × TypeId)} (hu : P.underlying t = some (.interface ms)) : Plain P (Op.equalIn (9999 + 1) t .nilIface .nilIface) := by
  unfold Op.equalIn
  exact plain_under_of hu trivial
theorem plain_eqIN {ms : Array (String × TypeId)} (hu : P.underlying t = some (.interface ms)) (u : TypeId) (v : Value) : Plain P (Op.equalIn (9999 + 1) t (.iface u v) .nilIface) := by
  unfold Op.equalIn
  exact plain_under_of hu trivial
theorem plain_eqPN {e : TypeId} (hu : P.underlying t = some (.pointer e)) (p : Option Addr) : Plain P (Op.equalIn (9999 + 1) t (.pointer p) (.pointer none)) := by
  unfold Op.equalIn
  cases p <;> exact plain_under_of hu trivial
theorem plain_eqSN {e : TypeId} (hu : P.underlying t = some (.slice e)) (p : Option Addr) (n c n' c' : Nat) : Plain P (Op.equalIn (9999 + 1) t (.slice p n c) (.slice none n' c')) := by
  unfold Op.equalIn
  cases p <;> exact plain_under_of hu trivial
end eqs
theorem pBin_plain (hτ : TabOk P τ) {op : BinOp} {t : TypeId} {x y : Operand} {u v : Value} {k : Value → Prop} (h : pBin P τ op t (isConstO y) u v k) : Plain P (do eqGuard op t x y u v; Go.binOp op t u v : Sem Value) := by
  unfold pBin at h
  split at h
  · exact plain_guard (by simp) (by simp) (plain_binInt _ _ _ _ _ _)
  · split at h
    · rename_i hi
      have hu := under_bool (under_of hτ hi)
      split at h
      · exact plain_guard (by simp) (by simp) (plain_eq (plain_eqBool hu _ _))
      · exact plain_guard (by simp) (by simp) (plain_ne (plain_eqBool hu _ _))
      · exact h.elim
    · exact h.elim
  · split at h
    · rename_i hi hc
      obtain ⟨ms, hu⟩ := under_iface (under_of hτ hi)
      have hcy : ∃ z, y = .const z := by
        cases y <;> simp [isConstO] at hc
        exact ⟨_, rfl⟩
      obtain ⟨z, rfl⟩ := hcy
      have hg : ∀ op, Plain P (eqGuard op t x (.const z) .nilIface .nilIface) := fun op => by
        unfold eqGuard
        cases op <;> first | trivial | (cases x <;> trivial)
      split at h
      · exact plain_bind (hg _) fun _ => plain_eq (plain_eqNN hu)
      · exact plain_bind (hg _) fun _ => plain_ne (plain_eqNN hu)
      · exact h.elim
    · exact h.elim
  · split at h
    · rename_i hi
      obtain ⟨ms, hu⟩ := under_iface (under_of hτ hi)
      split at h
      · exact plain_guard (by simp) (by simp) (plain_eq (plain_eqIN hu _ _))
      · exact plain_guard (by simp) (by simp) (plain_ne (plain_eqIN hu _ _))
      · exact h.elim
    · exact h.elim
  · split at h
    · rename_i hi
      obtain ⟨e, hu⟩ := under_ptr (under_of hτ hi)
      split at h
      · exact plain_guard (by simp) (by simp) (plain_eq (plain_eqPN hu _))
      · exact plain_guard (by simp) (by simp) (plain_ne (plain_eqPN hu _))
      · exact h.elim
    · exact h.elim
  · split at h
    · rename_i hi
      obtain ⟨hu, _⟩ := under_slice (under_of hτ hi)
      split at h
      · exact plain_guard (by simp) (by simp) (plain_eq (plain_eqSN hu _ _ _ _ _))
      · exact plain_guard (by simp) (by simp) (plain_ne (plain_eqSN hu _ _ _ _ _))
      · exact h.elim
    · exact h.elim
  · exact h.plain
  · exact plain_guard (by simp) (by simp) h.plain
  · exact plain_guard (by simp) (by simp) h.plain
  · exact plain_guard (by simp) (by simp) h.plain
  · exact h.elim
end
end Go.Proofs.YtgcbcagaibecbaaGreatDoor.Ev

namespace Go.Proofs.YtgcbcagaibecbaaGreatDoor.Ev
set_option maxRecDepth 20000
open Go Gap
variable [Go.Proofs.YtgcbcagaibecbaaGreatDoor.Gap.Leaps]

theorem add_none (b o n : Nat) : (⟨b, o, none⟩ : Addr).add n = ⟨b, o + n, none⟩ := by
  unfold Addr.add
  split
  · subst_vars; rfl
  · rfl

section
variable {P : Program} {τ : Tab} {N : Nat} {σ : Slots} {a : Act}

theorem part_run {t : TypeId} {cs : List Value} {off sz : Nat} (hi : (P.info? t).isSome = true) (hd : ∃ d, P.underlying t = some d) (hs : P.cellsOf t = sz) (hle : off + sz ≤ cs.length) (h : aggB P t = true) (w : World) :
    (part t cs.toArray off).run P w = .ok (.agg ((cs.drop off).take sz).toArray) w := by
  have h1 := aggB_run w hd
  rw [h] at h1
  have h2 := cellsOf_run hi w
  simp [part, h1, h2, hs, List.extract_eq_take_drop]

theorem part_run1 {t : TypeId} {cs : List Value} {off : Nat} {v : Value} (hd : ∃ d, P.underlying t = some d) (hv : cs[off]? = some v) (h : aggB P t = false) (w : World) :
    (part t cs.toArray off).run P w = .ok v w := by
  have h1 := aggB_run w hd
  rw [h] at h1
  simp [part, h1, hv]

theorem over_set (vs : List Value) : ∀ (cs : List Value) (o j : Nat), o + j + vs.length ≤ cs.length →
    ((vs.zipIdx j).foldl (fun (cs : Array Value) (x : Value × Nat) => cs.setIfInBounds (o + x.2) x.1) cs.toArray) = (over cs (o + j) vs).toArray := by
  induction vs with
  | nil => intro cs o j h; simp [over]
  | cons v vs ih =>
    intro cs o j h
    simp only [List.zipIdx_cons, List.foldl_cons, List.setIfInBounds_toArray]
    rw [ih _ o (j + 1) (by simp at h ⊢; omega)]
    congr 1
    unfold over
    simp only [List.length_cons] at h ⊢
    rw [List.take_set, List.drop_set_of_lt (by omega)]
    have e1 : o + (j + 1) = (o + j) + 1 := by omega
    have e2 : o + j + 1 + vs.length = o + j + (vs.length + 1) := by omega
    rw [e1, e2, List.take_succ_eq_append_getElem (by omega)]
    rw [List.set_append_right (o + j) v (by simp; omega)]
    simp [Nat.min_eq_left (show o + j ≤ cs.length by omega)]

theorem buildK_sound' {fs : List (Nat × Nat × Bool)} :
    ∀ (parts : List (Nat × Value)) (z : List Value) (k : List Value → Prop), buildK fs z parts k →
      ∃ l, (∀ places : Array (Nat × Nat), (∀ (i off sz : Nat) (g : Bool), fs[i]? = some (off, sz, g) → places[i]? = some (off, sz)) → Instr.fill (places[·]?) z.toArray parts = some l.toArray) ∧ k l
  | [], z, k, h => ⟨z, fun _ _ => rfl, h⟩
  | (i, v) :: r, z, k, h => by
    unfold buildK at h
    cases hi : fs[i]? with
    | none => rw [hi] at h; exact h.elim
    | some x =>
      obtain ⟨off, sz, g⟩ := x
      rw [hi] at h
      simp only at h
      cases hb : Nat.beq (cellsL v).length sz with
      | false => rw [hb] at h; exact h.elim
      | true =>
        rw [hb] at h
        simp only at h
        have hsz := Nat.eq_of_beq_eq_true hb
        obtain ⟨hle, h⟩ := overK_spec _ _ _ _ h
        obtain ⟨l, hl, hk⟩ := buildK_sound' r _ k h
        refine ⟨l, fun places hp => ?_, hk⟩
        unfold Instr.fill
        have e1 : v.cells.size = sz := by rw [← hsz, cellsL_eq]; simp
        have e2 : v.cells.size = (cellsL v).length := by rw [cellsL_eq]; simp
        simp only [hp i off sz g hi]
        rw [if_neg (by simp only [List.size_toArray]; rw [e2] at e1; rw [e2]; simp; omega)]
        have e3 : v.cells.zipIdx.foldl (fun (cs : Array Value) (x : Value × Nat) => cs.setIfInBounds (off + x.2) x.1) z.toArray = (over z off (cellsL v)).toArray := by
          have := over_set (cellsL v) z off 0 (by omega)
          rw [← Array.foldl_toList]
          simpa [cellsL_eq] using this
        rw [← hl places hp]
        congr 1

theorem not_iface {t : TypeId} {kd : TK} (h : kindB P t kd = true) (hne : kd ≠ .iface) : ∃ d, P.underlying t = some d ∧ ∀ ms, d ≠ .interface ms := by
  cases hu : P.underlying t with
  | none => cases kd <;> simp [kindB, hu] at h
  | some d =>
    refine ⟨d, rfl, fun ms hd => ?_⟩
    subst hd
    cases kd <;> simp [kindB, hu] at h
    exact hne rfl

theorem build_run {t : TypeId} {fs : List (Nat × Nat × Bool)} {n : Nat} {z : Value} {zs : List Value} (hok : TIok P t ⟨n, .struct fs, z :: zs⟩) {parts : List (Nat × Value)} {l : List Value}
    (hl : ∀ places : Array (Nat × Nat), (∀ (i off sz : Nat) (g : Bool), fs[i]? = some (off, sz, g) → places[i]? = some (off, sz)) → Instr.fill (places[·]?) (z :: zs).toArray parts = some l.toArray) (w : World) :
    (Instr.build t parts.toArray).run P w = .ok (.agg l.toArray) w := by
  obtain ⟨F, hu, _, hF⟩ := under_struct (t := t) hok.kind
  have hz := hok.zero.resolve_left (by simp)
  simp only [TK.agg] at hz
  obtain ⟨inf, h1, h2⟩ := Option.bind_eq_some_iff.1 hz
  have hmap : ∀ (L : List Field) (w : World), (∀ f ∈ L, (P.info? f.type).isSome = true) → (L.mapM (fun f => (do pure (f.offset, ← sizeOf f.type) : Sem (Nat × Nat)))).run P w = .ok (L.map fun f => (f.offset, P.cellsOf f.type)) w := by
    intro L
    induction L with
    | nil => intro w _; rfl
    | cons f L ih =>
      intro w hL
      rw [List.mapM_cons, Sem.run_bind]
      have e1 : (do pure (f.offset, ← sizeOf f.type) : Sem (Nat × Nat)).run P w = .ok (f.offset, P.cellsOf f.type) w := by
        simp [cellsOf_run (hL f (by simp)) w]
      rw [e1, Result.andThen_ok, Sem.run_bind, ih w (fun g hg => hL g (by simp [hg]))]
      rfl
  have hall : ∀ f ∈ F.toList, (P.info? f.type).isSome = true := by
    intro f hf
    obtain ⟨i, hi, rfl⟩ := List.mem_iff_getElem.1 hf
    have hi' : i < fs.length := by rw [← ‹F.size = fs.length›]; simpa using hi
    obtain ⟨g, hg, _, _, _, hinf, _⟩ := hF i (fs[i]).1 (fs[i]).2.1 (fs[i]).2.2 (by simp [List.getElem?_eq_getElem hi'])
    have : F.toList[i] = g := by
      have := (Array.getElem?_eq_some_iff.1 hg).2
      simpa using this
    rw [this]
    exact hinf
  have hm := hmap F.toList w hall
  have hplaces : (F.mapM (fun f => (do pure (f.offset, ← sizeOf f.type) : Sem (Nat × Nat)))).run P w = .ok (F.toList.map fun f => (f.offset, P.cellsOf f.type)).toArray w := by
    rw [Array.mapM_eq_mapM_toList, Sem.run_map, hm]
    rfl
  have hfill := hl (F.toList.map fun f => (f.offset, P.cellsOf f.type)).toArray (by
    intro i off sz g hi
    obtain ⟨f, hf, rfl, rfl, _⟩ := hF i off sz g hi
    simp [hf])
  have z1 : (zeroValue t).run P w = .ok (.agg (z :: zs).toArray) w := by simp [zeroValue, typeInfo, h1, h2]
  have u1 : (underlying t).run P w = .ok (.struct F) w := by simp [underlying, hu]
  rw [Instr.build, Sem.run_bind, z1, Result.andThen_ok, Sem.run_bind, u1, Result.andThen_ok]
  simp only []
  rw [Sem.run_bind, hplaces, Result.andThen_ok]
  simp only [Value.cells, hfill]
  rfl

theorem pure_sound (hτ : TabOk P τ) (hf : Fits N σ a) {o : Oper} {k : Value → Prop} (h : pureOp P τ σ o.op k) : ∃ v, Yv P o a v ∧ k v := by
  obtain ⟨dst, op, ty, pos, after, guard⟩ := o
  unfold Yv
  simp only at h
  unfold pureOp at h
  split at h
  · split at h
    · rename_i hx
      exact ⟨_, fun w => by simp [execOp, ro_eval hf hx], h⟩
    · exact h.elim
  · split at h
    · rename_i hx
      exact ⟨_, fun w => by simp [execOp, ro_eval hf hx], h⟩
    · exact h.elim
  · split at h
    · rename_i b hc
      rcases br_elim h with ⟨rfl, h2⟩ | ⟨rfl, h2⟩
      · split at h2
        · rename_i hx
          exact ⟨_, fun w => by simp [execOp, ro_eval hf hx, ro_eval hf hc, asBool], h2⟩
        · exact h2.elim
      · split at h2
        · rename_i hx
          exact ⟨_, fun w => by simp [execOp, ro_eval hf hx, ro_eval hf hc, asBool], h2⟩
        · exact h2.elim
    · exact h.elim
  · split at h
    · rename_i hx
      exact ⟨_, fun w => by simp [execOp, ro_eval hf hx, Op.unary], h⟩
    · exact h.elim
  · split at h
    · rename_i hx
      obtain ⟨r, hr, hk⟩ := h.ex
      refine ⟨r, fun w => ?_, hk⟩
      simp only [execOp, ro_eval hf hx]
      exact yv_of hr w
    · exact h.elim
  · split at h
    · rename_i hx
      obtain ⟨r, hr, hk⟩ := h.ex
      refine ⟨r, fun w => ?_, hk⟩
      simp only [execOp, ro_eval hf hx]
      exact yv_of hr w
    · exact h.elim
  · split at h
    · rename_i hx hy
      obtain ⟨r, hr, hk⟩ := pBin_sound (x := _) hτ h
      refine ⟨r, fun w => ?_, hk⟩
      simp only [execOp, ro_eval hf hx, ro_eval hf hy]
      exact yv_of (fun w => hr w) w
    · exact h.elim
  · split at h
    · rename_i hx
      split at h
      · rename_i hn
        rw [nth_eq] at hn
        exact ⟨_, fun w => by simp [execOp, ro_eval hf hx, Instr.extract, ← Array.getElem?_toList, hn], h⟩
      · exact h.elim
    · exact h.elim
  · split at h
    · rename_i hx
      exact ⟨_, fun w => by simp only [execOp, ro_eval hf hx]; rfl, h⟩
    · rename_i hx
      exact ⟨_, fun w => by simp only [execOp, ro_eval hf hx]; rfl, h⟩
    · exact h.elim
  · split at h
    · rename_i hx hi
      split at h
      · rename_i hfs
        obtain ⟨F, hu, _, hF⟩ := under_struct (under_of hτ hi)
        obtain ⟨f, hf1, rfl, hf3, hf4, hf5, hf6, hf7⟩ := hF _ _ _ _ hfs
        refine ⟨_, fun w => ?_, h⟩
        simp only [execOp, ro_eval hf hx]
        refine yv_of (fun w => ?_) w
        simp [Instr.fieldAt, underlying, hu, hf1, Instr.sureAddr, fieldPlace, cellsOf_run hf5 w, hf3, hf7, add_none]
      · exact h.elim
    · exact h.elim
  · split at h
    · rename_i hx hi ht
      obtain ⟨hu, he, hg, hI, hd⟩ := under_arr (under_of hτ ht)
      refine ⟨_, fun w => ?_, h.go⟩
      simp only [execOp, ro_eval hf hx, ro_eval hf hi]
      refine yv_of (fun w => ?_) w
      simp [Instr.indexAt, asIntOf, underlying, hu, Instr.sureAddr, h.lo, h.hi, cellsOf_run hI w, he, add_none]
    · rename_i hx hi ht
      obtain ⟨hu, he, hg, hI, hd⟩ := under_slice (under_of hτ ht)
      refine ⟨_, fun w => ?_, h.go⟩
      simp only [execOp, ro_eval hf hx, ro_eval hf hi]
      refine yv_of (fun w => ?_) w
      simp [Instr.indexAt, asIntOf, underlying, hu, h.lo, h.hi, cellsOf_run hI w, he, add_none]
    · exact h.elim
  · split at h
    · rename_i hx hi
      obtain ⟨r, hr, hk⟩ := h.ex
      refine ⟨r, fun w => ?_, hk⟩
      simp only [execOp, ro_eval hf hx, ro_eval hf hi]
      exact yv_of hr w
    · exact h.elim
  · split at h
    · rename_i hx ht
      obtain ⟨F, hu, _, hF⟩ := under_struct (under_of hτ ht)
      split at h
      · rename_i hfs
        obtain ⟨f, hf1, rfl, hf3, hf4, hf5, hf6, hf7⟩ := hF _ _ _ _ hfs
        obtain ⟨hle, hk⟩ := subK_spec _ _ _ _ h
        refine ⟨_, fun w => ?_, hk⟩
        simp only [execOp, ro_eval hf hx]
        refine yv_of (fun w => ?_) w
        have e := part_run hf5 hf6 hf3 hle hf4 w
        simp [Instr.field, underlying, hu, hf1, asAgg] at e ⊢
        exact e
      · rename_i hfs
        obtain ⟨f, hf1, rfl, hf3, hf4, hf5, hf6, hf7⟩ := hF _ _ _ _ hfs
        split at h
        · rename_i hn
          rw [nth_eq] at hn
          refine ⟨_, fun w => ?_, h⟩
          simp only [execOp, ro_eval hf hx]
          refine yv_of (fun w => ?_) w
          have e := part_run1 hf6 hn hf4 w
          simp [Instr.field, underlying, hu, hf1, asAgg] at e ⊢
          exact e
        · exact h.elim
      · exact h.elim
    · exact h.elim
  · split at h
    · rename_i v _ kd _ hx ht
      have hk := under_of hτ ht
      split at h
      · exact h.elim
      · rename_i hne
        obtain ⟨d, hd, hdn⟩ := not_iface hk (fun e => hne e)
        refine ⟨_, fun w => ?_, h⟩
        simp only [execOp, ro_eval hf hx]
        refine yv_of (fun w => ?_) w
        cases d <;> simp [Instr.makeInterface, underlying, hd] at hdn ⊢
    · exact h.elim
  · have h1 := roAll_spec hf _ _ h
    have h2 := roAll_spec hf _ _ h1
    exact ⟨_, fun w => by simp [execOp, Instr.makeFunc, ← List.map_toArray], h2⟩
  · have h1 := roParts_spec hf _ _ h
    split at h1
    · rename_i ht
      have hok := hτ _ _ ht
      obtain ⟨l, hl, hk⟩ := buildK_sound' _ _ _ h1
      refine ⟨_, fun w => ?_, hk⟩
      simp only [execOp]
      refine yv_of (fun w => ?_) w
      have := build_run hok hl w
      rw [← this]
      congr 2
      rw [← List.map_toArray]
    · obtain ⟨r, hr, hk⟩ := h1.ex
      refine ⟨r, fun w => ?_, hk⟩
      simp only [execOp]
      refine yv_of (fun w => ?_) w
      rw [← hr w]
      congr 2
      rw [← List.map_toArray]
  · have h1 := roAll_spec hf _ _ h
    rename_i av ts
    have hmap : av.map a.eval = (av.toList.map a.eval).toArray := by rw [← List.map_toArray]
    split at h1
    · rename_i hv hts
      split at h1
      · rename_i ht
        obtain ⟨hu, _⟩ := under_slice (under_of hτ ht)
        refine ⟨_, fun w => ?_, h1⟩
        obtain rfl : ts = #[_] := by rw [← Array.toArray_toList (xs := ts), hts]
        simp [execOp, resolve, invoke, builtin, hmap, hv, Builtin.len_, underlying, hu, goInt]
      · exact h1.elim
    · rename_i hv hts
      split at h1
      · rename_i ht
        have hu := under_str (under_of hτ ht)
        refine ⟨_, fun w => ?_, h1⟩
        obtain rfl : ts = #[_] := by rw [← Array.toArray_toList (xs := ts), hts]
        simp [execOp, resolve, invoke, builtin, hmap, hv, Builtin.len_, underlying, hu, goInt]
      · exact h1.elim
    · rename_i hv hts
      split at h1
      · rename_i ht
        obtain ⟨hu, _⟩ := under_arr (under_of hτ ht)
        refine ⟨_, fun w => ?_, h1⟩
        obtain rfl : ts = #[_] := by rw [← Array.toArray_toList (xs := ts), hts]
        simp [execOp, resolve, invoke, builtin, hmap, hv, Builtin.len_, underlying, hu, goInt]
      · exact h1.elim
    · exact h1.elim
  · have h1 := roAll_spec hf _ _ h
    rename_i av ts
    have hmap : av.map a.eval = (av.toList.map a.eval).toArray := by rw [← List.map_toArray]
    split at h1
    · rename_i hv hts
      split at h1
      · rename_i ht
        obtain ⟨hu, _⟩ := under_slice (under_of hτ ht)
        refine ⟨_, fun w => ?_, h1⟩
        obtain rfl : ts = #[_] := by rw [← Array.toArray_toList (xs := ts), hts]
        simp [execOp, resolve, invoke, builtin, hmap, hv, Builtin.cap_, underlying, hu, goInt]
      · exact h1.elim
    · exact h1.elim
  · have h1 := roAll_spec hf _ _ h
    rename_i av ts
    have hmap : av.map a.eval = (av.toList.map a.eval).toArray := by rw [← List.map_toArray]
    split at h1
    · rename_i hv
      refine ⟨_, fun w => ?_, h1⟩
      simp [execOp, resolve, invoke, builtin, hmap, hv, Builtin.min_, Builtin.min2]
    · exact h1.elim
  · have h1 := roAll_spec hf _ _ h
    rename_i av ts
    have hmap : av.map a.eval = (av.toList.map a.eval).toArray := by rw [← List.map_toArray]
    split at h1
    · rename_i hv
      refine ⟨_, fun w => ?_, h1⟩
      simp [execOp, resolve, invoke, builtin, hmap, hv, Builtin.max_, Builtin.max2]
    · exact h1.elim
  · split at h
    · rename_i hx
      obtain ⟨r, hr, hk⟩ := h.ex
      exact ⟨r, fun w => by simp only [execOp, ro_eval hf hx]; exact yv_of hr w, hk⟩
    · rename_i hx
      obtain ⟨r, hr, hk⟩ := h.ex
      exact ⟨r, fun w => by simp only [execOp, ro_eval hf hx]; exact yv_of hr w, hk⟩
    · exact h.elim
  · split at h
    · rename_i hx ht
      obtain ⟨hu, he, hg, hI, hd⟩ := under_arr (under_of hτ ht)
      split at h
      · exact h.elim
      · rename_i hn0
        have hn : _ ≠ 0 := Nat.ne_of_beq_eq_false hn0
        refine ⟨_, fun w => ?_, h⟩
        simp only [execOp, ro_eval hf hx]
        refine yv_of (fun w => ?_) w
        simp [Instr.sliceAt, underlying, hu, Instr.sureAddr, Instr.sliceBounds, cellsOf_run hI w, add_none]
    · exact h.elim
  · split at h
    · rename_i hx hl hh hm
      obtain ⟨r, hr, hk⟩ := h.ex
      refine ⟨r, fun w => ?_, hk⟩
      simp only [execOp, ro_eval hf hx]
      refine yv_of (fun w => ?_) w
      rw [← hr w]
      have hopt : ∀ (o : Option Operand) (u : Option Value), (o.elim (some none) fun y => (ro σ y).map some) = some u → o.map a.eval = u := by
        intro o u ho
        cases o with
        | none => simpa using ho
        | some y =>
          simp only [Option.elim_some, Option.map_eq_some_iff] at ho
          obtain ⟨v, hv, rfl⟩ := ho
          simp [ro_eval hf hv]
      rw [hopt _ _ hl, hopt _ _ hh, hopt _ _ hm]
    · exact h.elim
  · exact h.elim

theorem pure_plain (hτ : TabOk P τ) (hf : Fits N σ a) {o : Oper} {k : Value → Prop} (h : pureOp P τ σ o.op k) : Plain P (execOp a.eval o) := by
  obtain ⟨dst, op, ty, pos, after, guard⟩ := o
  simp only at h
  unfold pureOp at h
  split at h
  · exact trivial
  · exact trivial
  · simp only [execOp]
    exact plain_bind (plain_asBool _) fun b => by split <;> trivial
  · exact plain_v (plain_unary _ _)
  · exact plain_v (plain_unary _ _)
  · exact plain_v (plain_unary _ _)
  · split at h
    · rename_i hx hy
      simp only [execOp, ro_eval hf hx, ro_eval hf hy]
      exact plain_v (pBin_plain hτ h)
    · exact h.elim
  · exact plain_v (plain_extract _ _)
  · split at h
    · rename_i hx
      simp only [execOp, ro_eval hf hx]
      trivial
    · rename_i hx
      simp only [execOp, ro_eval hf hx]
      trivial
    · exact h.elim
  · split at h
    · rename_i hx hi
      split at h
      · rename_i hfs
        obtain ⟨F, hu, _, hF⟩ := under_struct (under_of hτ hi)
        obtain ⟨f, hf1, rfl, hf3, hf4, hf5, hf6, hf7⟩ := hF _ _ _ _ hfs
        exact plain_v (plain_fieldAt hu hf1 hf5 (by rw [hf3]; exact hf7))
      · exact h.elim
    · exact h.elim
  · exact plain_v (plain_indexAt _ _ _)
  · exact plain_v (plain_index _ _ _)
  · exact plain_v (plain_field _ _ _)
  · exact plain_v (plain_makeInterface _ _)
  · exact trivial
  · exact plain_v (plain_build _ _)
  · simp only [execOp, resolve]
    exact plain_v (plain_len _ _ _)
  · simp only [execOp, resolve]
    exact plain_v (plain_cap _ _ _)
  · rename_i av ts
    have h1 := roAll_spec hf _ _ h
    have hmap : av.map a.eval = (av.toList.map a.eval).toArray := by rw [← List.map_toArray]
    simp only [execOp, resolve, hmap]
    split at h1
    · rename_i hvs
      rw [hvs]
      exact plain_v (plain_bind (s := Builtin.min2 _ _) (plain_min2 _ _ _ _) fun _ => trivial)
    · exact h1.elim
  · rename_i av ts
    have h1 := roAll_spec hf _ _ h
    have hmap : av.map a.eval = (av.toList.map a.eval).toArray := by rw [← List.map_toArray]
    simp only [execOp, resolve, hmap]
    split at h1
    · rename_i hvs
      rw [hvs]
      exact plain_v (plain_bind (s := Builtin.max2 _ _) (plain_max2 _ _ _ _) fun _ => trivial)
    · exact h1.elim
  · split at h
    · rename_i hx
      simp only [execOp, ro_eval hf hx]
      exact plain_v h.plain
    · rename_i hx
      simp only [execOp, ro_eval hf hx]
      exact plain_v h.plain
    · exact h.elim
  · exact plain_v (plain_sliceAt _ _ _ _ _)
  · exact plain_v (plain_sliceAt _ _ _ _ _)
  · exact h.elim
end
end Go.Proofs.YtgcbcagaibecbaaGreatDoor.Ev

namespace Go.Proofs.YtgcbcagaibecbaaGreatDoor.Ev
set_option maxRecDepth 20000
open Go Gap
variable [Go.Proofs.YtgcbcagaibecbaaGreatDoor.Gap.Leaps]

def Blk (w : World) (b : Nat) (t : TypeId) (cs : List Value) : Prop := w.heap[b]? = some (.cells cs.toArray t (0, 0))
def CellsAt (w : World) (b o : Nat) (l : List Value) : Prop := ∀ i v, l[i]? = some v → w.cell? ⟨b, o + i, none⟩ = some v
def setBlk (w : World) (b : Nat) (t : TypeId) (cs : List Value) : World := { w with heap := w.heap.setIfInBounds b (.cells cs.toArray t (0, 0)) }
def pushBlk (w : World) (t : TypeId) (cs : List Value) : World := { w with heap := w.heap.push (.cells cs.toArray t (0, 0)) }
def isOne : Value → Bool
  | .agg _ | .tuple _ => false
  | _ => true

structure LdC (w : World) (b o : Nat) (k : Value → Prop) : Prop where
  ex : ∃ v, w.cell? ⟨b, o, none⟩ = some v ∧ k v
structure LdA (w : World) (b o n : Nat) (k : Value → Prop) : Prop where
  ex : ∃ l : List Value, l.length = n ∧ CellsAt w b o l ∧ k (.agg l.toArray)
structure StC (w : World) (b o : Nat) (vs : List Value) (k : World → Prop) : Prop where
  ex : ∃ t cs, Blk w b t cs ∧ o + vs.length ≤ cs.length ∧ (∀ v ∈ vs, isOne v = true) ∧ k (setBlk w b t (over cs o vs))
structure NewC (w : World) (t : TypeId) (cs : List Value) (k : Value → World → Prop) : Prop where
  ex : ∀ n d, k (.pointer (some ⟨(Gap.wgap w n d).heap.size, 0, none⟩)) (pushBlk (Gap.wgap w n d) t cs)
structure ZeroC (P : Program) (t : TypeId) (k : List Value → Prop) : Prop where
  ex : ∃ z, (P.info? t).bind (·.zero) = some z ∧ k (cellsL z)
structure CallC (P : Program) (f : FuncId) (args : Array Value) (w : World) (k : Value → World → Prop) : Prop where
  ex : (Quiet P (callFunc f args) w (.enter f args) w ∧ CallsG P f args w k) ∨ (∃ v w', Quiet P (callFunc f args) w (.value v) w' ∧ k v w') ∨ ∀ n d, ∃ v w', Loud P (callFunc f args) (Gap.wgap w n d) (.value v) w' ∧ k v w'
structure InvC (P : Program) (t : TypeId) (v : Value) (name : String) (args : List Value) (w : World) (k : Value → World → Prop) : Prop where
  ex : ∃ f r, (∀ w, Quiet P (Go.method (P.types.size + Made.depth) t v name) w (f, r) w) ∧ CallC P f (r :: args).toArray w k
structure IfEqC (P : Program) (op : BinOp) (t : TypeId) (x y : Value) (w : World) (k : Value → Prop) : Prop where
  ex : ∃ v, Quiet P (Go.binOp op t x y) w v w ∧ k v
structure RunC (P : Program) (s : Sem Value) (w : World) (k : Value → World → Prop) : Prop where
  ex : (∃ v w', Quiet P s w v w' ∧ k v w') ∨ ∀ n d, ∃ v w', Loud P s (Gap.wgap w n d) v w' ∧ k v w'
structure RunU (P : Program) (s : Sem Unit) (w : World) (k : World → Prop) : Prop where
  ex : (∃ w', Quiet P s w () w' ∧ k w') ∨ ∀ n d, ∃ w', Loud P s (Gap.wgap w n d) () w' ∧ k w'
theorem RunC.quiet {P : Program} {s : Sem Value} {w w' : World} {k : Value → World → Prop} {v : Value} (hp : Plain P s) (h : s.run P w = .ok v w') (hs : w'.heap.size = w.heap.size) (hd : w'.drawn = w.drawn) (hk : k v w') : RunC P s w k := ⟨.inl ⟨v, w', .of hp h hs hd, hk⟩⟩
theorem RunC.loud {P : Program} {s : Sem Value} {w : World} {k : Value → World → Prop} (hp : Plain P s) (h : ∀ n d, ∃ v w', s.run P (Gap.wgap w n d) = .ok v w' ∧ k v w') : RunC P s w k :=
  ⟨.inr fun n d => let ⟨v, w', h1, h2⟩ := h n d; ⟨v, w', .of hp h1, h2⟩⟩
theorem RunU.quiet {P : Program} {s : Sem Unit} {w w' : World} {k : World → Prop} (hp : Plain P s) (h : s.run P w = .ok () w') (hs : w'.heap.size = w.heap.size) (hd : w'.drawn = w.drawn) (hk : k w') : RunU P s w k := ⟨.inl ⟨w', .of hp h hs hd, hk⟩⟩
theorem CallC.mono {P : Program} {f : FuncId} {args : Array Value} {w : World} {R k : Value → World → Prop} (h : CallC P f args w R) (hk : ∀ v w', R v w' → k v w') : CallC P f args w k :=
  ⟨by
    rcases h.ex with ⟨h1, h2⟩ | ⟨v, w', h1, h2⟩ | h
    · exact .inl ⟨h1, h2.mono hk⟩
    · exact .inr (.inl ⟨v, w', h1, hk _ _ h2⟩)
    · exact .inr (.inr fun n d => let ⟨v, w', h1, h2⟩ := h n d; ⟨v, w', h1, hk _ _ h2⟩)⟩
theorem callFunc_body {P : Program} {f : FuncId} {fn : Func} (args : Array Value) (hf : P.funcs[f]? = some fn) (hname : (fn.name == "runtime.NumGoroutine") = false) (hb : fn.body.isNone = false) : Plain P (callFunc f args) ∧ ∀ w, (callFunc f args).run P w = .ok (.enter f args) w := by
  have hname' : ¬ fn.name = "runtime.NumGoroutine" := by simpa using hname
  refine ⟨?_, fun w => ?_⟩
  · unfold callFunc
    refine plain_prog ?_
    simp only [hf, hname, hb, Bool.false_eq_true, if_false]
    trivial
  · have hb' : ¬ fn.body = none := by
      intro h
      rw [h] at hb
      cases hb
    simp [callFunc, program, Sem.run, hf, hname', hb']
theorem CallC.extern {P : Program} {f : FuncId} {args : Array Value} {w w' : World} {v : Value} {k : Value → World → Prop} (hp : Plain P (callFunc f args)) (h : (callFunc f args).run P w = .ok (.value v) w') (hs : w'.heap.size = w.heap.size) (hd : w'.drawn = w.drawn) (hk : k v w') : CallC P f args w k := ⟨.inr (.inl ⟨v, w', .of hp h hs hd, hk⟩)⟩
theorem CallC.externL {P : Program} {f : FuncId} {args : Array Value} {w : World} {k : Value → World → Prop} (hp : Plain P (callFunc f args)) (h : ∀ n d, ∃ v w', (callFunc f args).run P (Gap.wgap w n d) = .ok (.value v) w' ∧ k v w') : CallC P f args w k :=
  ⟨.inr (.inr fun n d => let ⟨v, w', h1, h2⟩ := h n d; ⟨v, w', .of hp h1, h2⟩)⟩

def worldOp (P : Program) (τ : Tab) (σ : Slots) (op : Op) (w : World) (k : Value → World → Prop) : Prop :=
  match op with
  | .load t x => match ro σ x, tl τ t with
    | some (.pointer (some ⟨b, o, none⟩)), some ⟨n, kd, _⟩ => (match kd.agg with
      | true => LdA w b o n fun v => k v w
      | false => LdC w b o fun v => k v w)
    | _, _ => False
  | .store t x y => match ro σ x, ro σ y, tl τ t with
    | some (.pointer (some ⟨b, o, none⟩)), some v, some ⟨n, _, _⟩ => (match Nat.beq (cellsL v).length n with
      | true => StC w b o (cellsL v) fun w' => k undef w'
      | false => False)
    | _, _, _ => False
  | .box t x => match ro σ x with
    | some v => NewC w t (cellsL v) k
    | none => False
  | .alloc t => match tl τ t with
    | some ⟨_, kd, z :: zs⟩ => (match kd.agg, zs, isOne z with
      | true, zs, _ => NewC w t (z :: zs) k
      | false, [], true => NewC w t [z] k
      | _, _, _ => False)
    | _ => ZeroC P t fun cs => NewC w t cs k
  | .call { callee := .value f, args := av, argTypes := _ } => match ro σ f with
    | some (.func (.func g) first caps) => roAll σ av.toList fun vs => (match first.toList, caps.toList with
      | [], [] => CallC P g vs.toArray w k
      | [], c :: cs => CallC P g (vs ++ (c :: cs)).toArray w k
      | x :: xs, cs => CallC P g ((x :: xs) ++ vs ++ cs).toArray w k)
    | _ => False
  | .call { callee := .invoke x name, args := av, argTypes := _ } => match ro σ x with
    | some (.iface t v) => roAll σ av.toList fun vs => InvC P t v name vs w k
    | _ => False
  | .call { callee := .builtin .append, args := av, argTypes := ts } => roAll σ av.toList fun vs => RunC P (Builtin.append_ ts 0 vs.toArray) w k
  | .call { callee := .builtin .copy, args := av, argTypes := ts } => roAll σ av.toList fun vs => RunC P (Builtin.copy_ ts 0 vs.toArray) w k
  | .call { callee := .builtin .clear, args := av, argTypes := ts } => roAll σ av.toList fun vs => RunC P (Builtin.clear_ ts 0 vs.toArray) w k
  | .buildSlice t n parts => roParts σ parts.toList fun ps => RunC P (Instr.buildSlice t n ps.toArray) w k
  | .makeSlice t l c => match ro σ l, ro σ c with
    | some vl, some vc => RunC P (Instr.makeSlice t vl vc) w k
    | _, _ => False
  | .makeMap t none => RunC P (Instr.makeMap t none) w k
  | .lookup t x i ok => match ro σ x, ro σ i with
    | some vx, some vi => RunC P (Instr.lookup t vx vi ok) w k
    | _, _ => False
  | .mapUpdate t m x y => match ro σ m, ro σ x, ro σ y with
    | some vm, some vx, some vy => RunU P (Instr.mapUpdate t vm vx vy) w fun w' => k undef w'
    | _, _, _ => False
  | .insert t m x y => match ro σ m, ro σ x, ro σ y with
    | some vm, some vx, some vy => RunU P (Instr.mapUpdate t vm vx vy) w fun w' => k undef w'
    | _, _, _ => False
  | .convert s d x => match ro σ x with
    | some v => RunC P (Go.convert s d v) w k
    | none => False
  | .typeAssert x t u ok => match ro σ x with
    | some v => RunC P (Instr.typeAssert v t u ok) w k
    | none => False
  | .makeChan t n => match ro σ n with
    | some v => RunC P (Instr.makeChan t v) w k
    | none => False
  | .call { callee := .builtin .unsafeString, args := av, argTypes := ts } => roAll σ av.toList fun vs => RunC P (Builtin.unsafeString_ ts 0 vs.toArray) w k
  | .call { callee := .builtin .unsafeSliceData, args := av, argTypes := _ } => roAll σ av.toList fun vs => (match vs with
    | [.slice (some ad) _ c] => c ≠ 0 ∧ k (.pointer (some ad)) w
    | _ => False)
  | _ => False

def isPure : Op → Bool
  | .move _ | .assign _ | .pick .. | .unOp .. | .binOp .. | .extract .. | .nilCheck _ | .fieldAddr .. | .indexAddr .. | .index .. | .field .. | .makeInterface .. | .makeFunc .. | .build .. | .slice .. => true
  | .call { callee := .builtin .len, .. } | .call { callee := .builtin .cap, .. } | .call { callee := .builtin .min, .. } | .call { callee := .builtin .max, .. } => true
  | _ => false

def isBool : Value → Bool
  | .bool _ => true
  | _ => false

def put1 (N : Nat) (dst : Option Nat) (v : Value) (σ : Slots) (k : Slots → Prop) : Prop :=
  match dst with
  | none => k σ
  | some d => match Nat.blt d N with
    | true => k ((d, v) :: σ)
    | false => False

def dstAt : List Oper → Nat → Option Nat
  | [], _ => none
  | o :: _, 0 => o.dst
  | _ :: r, n + 1 => dstAt r n

def guardK (N : Nat) (ops : List Oper) (g : Option (Nat × Bool)) (σ : Slots) (yes no : Slots → Prop) : Prop :=
  match g with
  | none => yes σ
  | some (j, want) => match dstAt ops j with
    | none => False
    | some d => match look σ d with
      | some (.bool b) => (match want with
        | true => br b (yes ((d, .bool true) :: σ)) (no ((d, .bool false) :: σ))
        | false => br b (no ((d, .bool true) :: σ)) (yes ((d, .bool false) :: σ)))
      | some v => (match isBool v with
        | true => False
        | false => no σ)
      | none => False

def ifaces (σ : Slots) : Op → Option (BinOp × TypeId × Value × Value)
  | .binOp op t x y _ => match ro σ x, ro σ y with
    | some (.iface a u), some (.iface b v) => some (op, t, .iface a u, .iface b v)
    | _, _ => none
  | _ => none

def evOps (P : Program) (τ : Tab) (N : Nat) (ops : List Oper) : List Oper → (Slots → World → Prop) → Slots → World → Prop
  | [], Q, σ, w => Q σ w
  | ⟨dst, op, _, _, _, g⟩ :: rest, Q, σ, w =>
    guardK N ops g σ
      (fun σ => match isPure op with
        | true => (match ifaces σ op with
          | some (bop, t, x, y) => IfEqC P bop t x y w fun v => put1 N dst v σ fun σ => evOps P τ N ops rest Q σ w
          | none => pureOp P τ σ op fun v => put1 N dst v σ fun σ => evOps P τ N ops rest Q σ w)
        | false => worldOp P τ σ op w fun v w => put1 N dst v σ fun σ => evOps P τ N ops rest Q σ w)
      (fun σ => put1 N dst undef σ fun σ => evOps P τ N ops rest Q σ w)

def lift (N : Nat) (Q : Exit → Slots → World → Prop) : Exit → Act → World → Prop
  | .normal, a, w => ∃ σ, Fits N σ a ∧ Q .normal σ w
  | .exit i, a, w => ∃ σ, Fits N σ a ∧ Q (.exit i) σ w
  | .ret, a, w => ∃ σ, Fits N σ a ∧ Q .ret σ w
  | _, _, _ => False

structure DrawC (P : Program) (τ : Tab) (N : Nat) (ops : Array Oper) (Q : Slots → World → Prop) (σ : Slots) (w : World) : Prop where
  go : ∀ id a, Fits N σ a → gwp P (Code.region id ops true) (fun e a' w' => e = .normal ∧ ∃ σ', Fits N σ' a' ∧ Q σ' w') a w
structure LoopC (P : Program) (τ : Tab) (N : Nat) (body : Code) (Q : Exit → Slots → World → Prop) (σ : Slots) (w : World) : Prop where
  go : ∀ a, Fits N σ a → gwp P (Code.loop body) (lift N Q) a w

def ev (P : Program) (τ : Tab) (N : Nat) : Code → (Exit → Slots → World → Prop) → Slots → World → Prop
  | .skip, Q, σ, w => Q .normal σ w
  | .region _ ops false, Q, σ, w => evOps P τ N ops.toList ops.toList (fun σ w => Q .normal σ w) σ w
  | .region _ ops true, Q, σ, w => DrawC P τ N ops (fun σ w => Q .normal σ w) σ w
  | .seq x y, Q, σ, w => ev P τ N x (fun e σ w => match e with
    | .normal => ev P τ N y Q σ w
    | e => Q e σ w) σ w
  | .cond c x y, Q, σ, w => match ro σ c with
    | some (.bool b) => br b (ev P τ N x Q σ w) (ev P τ N y Q σ w)
    | _ => False
  | .block id c, Q, σ, w => ev P τ N c (fun e σ w => match e with
    | .exit i => (match Nat.beq i id with
      | true => Q .normal σ w
      | false => Q (.exit i) σ w)
    | e => Q e σ w) σ w
  | .loop c, Q, σ, w => LoopC P τ N c Q σ w
  | .exit i, Q, σ, w => Q (.exit i) σ w
  | .ret, Q, σ, w => Q .ret σ w
  | _, _, _, _ => False

section
variable {P : Program} {τ : Tab} {N : Nat} {σ : Slots} {a : Act} {w : World}

theorem Blk.lt {b : Nat} {t : TypeId} {cs : List Value} (h : Blk w b t cs) : b < w.heap.size := (Array.getElem?_eq_some_iff.1 h).1
theorem Blk.cell {b : Nat} {t : TypeId} {cs : List Value} (h : Blk w b t cs) (o : Nat) : w.cell? ⟨b, o, none⟩ = cs[o]? := by
  unfold Blk at h
  simp [World.cell?, h]
theorem Blk.frozen {b : Nat} {t : TypeId} {cs : List Value} (h : Blk w b t cs) (o : Nat) : w.frozen? ⟨b, o, none⟩ = false := by
  unfold Blk at h
  simp [World.frozen?, h]

theorem loadCells_run (b o : Nat) : ∀ (l : List Value) (i : Nat) (acc : Array Value), (∀ j v, l[j]? = some v → w.cell? ⟨b, o + (i + j), none⟩ = some v) →
    (loadCellsFrom ⟨b, o, none⟩ i l.length acc).run P w = .ok (acc ++ l.toArray) w := by
  intro l
  induction l with
  | nil => intro i acc _; simp [loadCellsFrom]
  | cons x l ih =>
    intro i acc h
    have h0 := h 0 x rfl
    rw [List.length_cons, loadCellsFrom, Sem.run_bind]
    have e : (load ((⟨b, o, none⟩ : Addr).add i)).run P w = .ok x w := by
      rw [add_none]
      simp [load, Sem.run, show w.cell? ⟨b, o + i, none⟩ = some x by simpa using h0]
    rw [e, Result.andThen_ok, ih (i + 1) (acc.push x) (fun j v hj => by
      have := h (j + 1) v (by simpa using hj)
      rw [show i + 1 + j = i + (j + 1) by omega]; exact this)]
    simp

theorem load_sound {t : TypeId} {n : Nat} {kd : TK} {z : List Value} {b o : Nat} (hτ : TabOk P τ) (ht : tl τ t = some ⟨n, kd, z⟩) {k : Value → Prop}
    (h : match kd.agg with | true => LdA w b o n k | false => LdC w b o k) : ∃ v, (Instr.loadAt t (.pointer (some ⟨b, o, none⟩))).run P w = .ok v w ∧ k v := by
  have hok := hτ t _ ht
  have hagg := hok.agg_run w
  have hsz := hok.size_run w
  cases hk : kd.agg with
  | true =>
    rw [hk] at h hagg
    obtain ⟨l, hl, hc, hv⟩ := h.ex
    refine ⟨_, ?_, hv⟩
    have := loadCells_run (P := P) (w := w) b o l 0 #[] (fun j v hj => by simpa using hc j v hj)
    have hsz' : (sizeOf t).run P w = .ok l.length w := by rw [hl]; exact hsz
    simp [Instr.loadAt, Instr.sureAddr, loadVar, hagg, hsz', loadCells, this]
  | false =>
    rw [hk] at h hagg
    obtain ⟨v, hc, hv⟩ := h.ex
    refine ⟨v, ?_, hv⟩
    simp [Instr.loadAt, Instr.sureAddr, loadVar, hagg, load, Sem.run, hc]

theorem store_one (v : Value) (hv : isOne v = true) (b o : Nat) (old : Value) (hc : w.cell? ⟨b, o, none⟩ = some old) (hf : w.frozen? ⟨b, o, none⟩ = false) :
    (store ⟨b, o, none⟩ v).run P w = .ok () (w.setCell ⟨b, o, none⟩ v) := by
  cases v <;> simp [isOne] at hv <;> simp [store, Sem.run, hc, hf]

theorem setBlk_blk {b : Nat} {t : TypeId} {cs : List Value} (hb : b < w.heap.size) : Blk (setBlk w b t cs) b t cs := by
  simp [Blk, setBlk, hb]
theorem setCell_eq {b o : Nat} {t : TypeId} {cs : List Value} (h : Blk w b t cs) (v : Value) : w.setCell ⟨b, o, none⟩ v = setBlk w b t (cs.set o v) := by
  unfold Blk at h
  obtain ⟨hb, he⟩ := Array.getElem?_eq_some_iff.1 h
  unfold World.setCell setBlk
  congr 1
  apply Array.ext_getElem?
  intro i
  rw [Array.getElem?_modify, Array.getElem?_setIfInBounds]
  by_cases hi : b = i
  · subst hi
    simp [he, hb]
  · rw [if_neg hi, if_neg hi]
theorem setBlk_setBlk {b : Nat} {t : TypeId} {cs ds : List Value} : setBlk (setBlk w b t cs) b t ds = setBlk w b t ds := by
  simp [setBlk]

theorem storeCells_run (b : Nat) (t : TypeId) : ∀ (vs : List Value) (o i : Nat) (w : World) (cs : List Value), Blk w b t cs → (∀ v ∈ vs, isOne v = true) → o + i + vs.length ≤ cs.length →
    (storeCells ⟨b, o, none⟩ vs i).run P w = .ok () (setBlk w b t (over cs (o + i) vs)) := by
  intro vs
  induction vs with
  | nil =>
    intro o i w cs hb _ _
    have e : over cs (o + i) [] = cs := by simp [over]
    have : setBlk w b t cs = w := by
      unfold Blk at hb
      obtain ⟨hl, he⟩ := Array.getElem?_eq_some_iff.1 hb
      unfold setBlk
      have : w.heap.setIfInBounds b (Obj.cells cs.toArray t (0, 0)) = w.heap := by
        apply Array.ext_getElem?
        intro i
        rw [Array.getElem?_setIfInBounds]
        by_cases hi : b = i
        · subst hi
          simp [he, hl]
        · rw [if_neg hi]
      rw [this]
    rw [e, this]
    rfl
  | cons v vs ih =>
    intro o i w cs hb h1 hle
    have hlt : o + i < cs.length := by simp at hle; omega
    have hc : w.cell? ⟨b, o + i, none⟩ = some cs[o + i] := by rw [hb.cell, List.getElem?_eq_getElem hlt]
    have hs := store_one (P := P) (w := w) v (h1 v (by simp)) b (o + i) _ hc (hb.frozen _)
    rw [storeCells, Sem.run_bind, add_none, hs, Result.andThen_ok, setCell_eq hb]
    rw [ih o (i + 1) _ (cs.set (o + i) v) (setBlk_blk hb.lt) (fun u hu => h1 u (by simp [hu])) (by simp at hle ⊢; omega), setBlk_setBlk]
    congr 2
    unfold over
    simp only [List.length_cons] at hle ⊢
    rw [List.take_set, List.drop_set_of_lt (by omega)]
    have e1 : o + (i + 1) = (o + i) + 1 := by omega
    have e2 : o + i + 1 + vs.length = o + i + (vs.length + 1) := by omega
    rw [e1, e2, List.take_succ_eq_append_getElem (by omega), List.set_append_right (o + i) v (by simp; omega)]
    simp [Nat.min_eq_left (show o + i ≤ cs.length by omega)]

theorem store_sound {t : TypeId} {n : Nat} {kd : TK} {z : List Value} {b o : Nat} {v : Value} (hτ : TabOk P τ) (ht : tl τ t = some ⟨n, kd, z⟩) {k : World → Prop} (hn : (cellsL v).length = n) (h : StC w b o (cellsL v) k) :
    ∃ w', (Instr.storeAt t (.pointer (some ⟨b, o, none⟩)) v).run P w = .ok () w' ∧ k w' := by
  have hsz := (hτ t _ ht).size_run w
  obtain ⟨t', cs, hb, hle, h1, hk⟩ := h.ex
  refine ⟨_, ?_, hk⟩
  have hc : v.cells.size = n := by rw [← hn, cellsL_eq]; simp
  have := storeCells_run (P := P) b t' (cellsL v) o 0 w cs hb h1 (by simpa using hle)
  have hsz' : (sizeOf t).run P w = .ok n w := hsz
  simp [Instr.storeAt, Instr.sureAddr, storeVar, hsz', hc, ← cellsL_eq, this]

theorem zero_run {t : TypeId} {z : Value} (h : (P.info? t).bind (·.zero) = some z) (w : World) : (zeroValue t).run P w = .ok z w := by
  obtain ⟨inf, h1, h2⟩ := Option.bind_eq_some_iff.1 h
  simp [zeroValue, typeInfo, h1, h2]

theorem vrun {s : Sem Value} {v : Value} {w' : World} (h : s.run P w = .ok v w') : (do pure (Next.value (← s)) : Sem Next).run P w = .ok (.value v) w' := by
  simp [h]
theorem new_run {t : TypeId} {v : Value} : (Instr.box t v).run P w = .ok (.pointer (some ⟨w.heap.size, 0, none⟩)) (pushBlk w t (cellsL v)) := by
  simp [Instr.box, newVar, newRow, newObj, Sem.run, pushBlk, cellsL_eq]
theorem alloc_run {t : TypeId} {z : Value} (h : (P.info? t).bind (·.zero) = some z) : (Instr.alloc t true (.tuple #[])).run P w = .ok (.pointer (some ⟨w.heap.size, 0, none⟩)) (pushBlk w t (cellsL z)) := by
  simp [Instr.alloc, zero_run h, newVar, newRow, newObj, Sem.run, pushBlk, cellsL_eq]

theorem cellsL_one {z : Value} (h : isOne z = true) : cellsL z = [z] := by cases z <;> simp_all [isOne, cellsL]
theorem setBlk_size {b : Nat} {t : TypeId} {cs : List Value} : (setBlk w b t cs).heap.size = w.heap.size := by simp [setBlk]

section
variable {o : Oper} {k : Value → World → Prop}
abbrev Got (a : Act) (o : Oper) (k : Value → World → Prop) : Act → World → Prop := fun a' w' => ∃ v, a' = a.put o.dst v ∧ k v w'
theorem got_q {s : Sem Value} (he : execOp a.eval o = (do pure (Next.value (← s)))) {v : Value} {w' : World} (h : Quiet P s w v w') (hk : k v w') : gOp P o a w (Got a o k) :=
  .inl ⟨.value v, w', by rw [he]; exact h.map, v, rfl, hk⟩
theorem got_run {s : Sem Value} (he : execOp a.eval o = (do pure (Next.value (← s)))) (h : RunC P s w k) : gOp P o a w (Got a o k) := by
  rcases h.ex with ⟨v, w', h1, h2⟩ | h
  · exact got_q he h1 h2
  · exact .inr (.inl fun n d => let ⟨v, w', h1, h2⟩ := h n d; ⟨.value v, w', by rw [he]; exact h1.map, v, rfl, h2⟩)
theorem got_runU {s : Sem Unit} {k' : World → Prop} (he : execOp a.eval o = (do s; pure Next.skip)) (h : RunU P s w k') : gOp P o a w (Got a o fun v w' => v = undef ∧ k' w') := by
  have e : (do s; pure Next.skip : Sem Next) = s >>= fun u => pure ((fun _ => Next.skip) u) := rfl
  rcases h.ex with ⟨w', h1, h2⟩ | h
  · exact .inl ⟨.skip, w', by rw [he, e]; exact h1.map, undef, rfl, rfl, h2⟩
  · exact .inr (.inl fun n d => let ⟨w', h1, h2⟩ := h n d; ⟨.skip, w', by rw [he, e]; exact h1.map, undef, rfl, rfl, h2⟩)
theorem got_call {g : FuncId} {args : Array Value} (he : execOp a.eval o = callFunc g args) (h : CallC P g args w k) : gOp P o a w (Got a o k) := by
  rcases h.ex with ⟨h1, h2⟩ | ⟨v, w', h1, h2⟩ | h
  · exact .inr (.inr ⟨g, args, by rw [he]; exact h1, h2.mono fun v w' hv => ⟨v, rfl, hv⟩⟩)
  · exact .inl ⟨.value v, w', by rw [he]; exact h1, v, rfl, h2⟩
  · exact .inr (.inl fun n d => let ⟨v, w', h1, h2⟩ := h n d; ⟨.value v, w', by rw [he]; exact h1, v, rfl, h2⟩)
theorem Got.mono' {k k' : Value → World → Prop} (h : gOp P o a w (Got a o k)) (hk : ∀ v w', k v w' → k' v w') : gOp P o a w (Got a o k') := gOp_mono (fun a' w' ⟨v, e, hv⟩ => ⟨v, e, hk _ _ hv⟩) h
theorem got_new {s : Sem Value} {t : TypeId} {cs : List Value} (he : execOp a.eval o = (do pure (Next.value (← s)))) (hp : Plain P s) (hr : ∀ w, s.run P w = .ok (.pointer (some ⟨w.heap.size, 0, none⟩)) (pushBlk w t cs)) (h : NewC w t cs k) : gOp P o a w (Got a o k) :=
  got_run he (.loud hp fun n d => ⟨_, _, hr _, h.ex n d⟩)
theorem got_alloc {t : TypeId} {z : Value} {cs : List Value} (hz : (P.info? t).bind (·.zero) = some z) (hc : cellsL z = cs) (he : execOp a.eval o = (do pure (Next.value (← Instr.alloc t true (.tuple #[]))))) (h : NewC w t cs k) : gOp P o a w (Got a o k) :=
  got_new he (plain_alloc _ _ _) (fun w => by rw [alloc_run hz, hc]) h
end

theorem world_sound (hτ : TabOk P τ) (hf : Fits N σ a) {o : Oper} {k : Value → World → Prop} (h : worldOp P τ σ o.op w k) : gOp P o a w (Got a o k) := by
  obtain ⟨dst, op, ty, pos, after, guard⟩ := o
  simp only at h
  unfold worldOp at h
  split at h
  · split at h
    · rename_i hx ht
      obtain ⟨v, hr, hk⟩ := load_sound hτ ht h
      exact got_q (by simp only [execOp, ro_eval hf hx]) (Quiet.of (plain_loadAt _ _) hr rfl rfl) hk
    · exact h.elim
  · split at h
    · rename_i hx hy ht
      split at h
      · rename_i hn
        obtain ⟨t1, cs1, e1, e2, e3, e4⟩ := h.ex
        obtain ⟨w', hr, hk⟩ := store_sound (k := fun w' => k undef w' ∧ w'.heap.size = w.heap.size ∧ w'.drawn = w.drawn) hτ ht (Nat.eq_of_beq_eq_true hn) ⟨t1, cs1, e1, e2, e3, e4, setBlk_size, rfl⟩
        exact Got.mono' (got_runU (k' := fun w' => k undef w') (by simp only [execOp, ro_eval hf hx, ro_eval hf hy]) (.quiet (plain_storeAt _ _ _) hr hk.2.1 hk.2.2 hk.1)) fun v w' hv => hv.1 ▸ hv.2
      · exact h.elim
    · exact h.elim
  · split at h
    · rename_i hx
      exact got_new (by simp only [execOp, ro_eval hf hx]) (plain_box _ _) (fun w => new_run) h
    · exact h.elim
  · split at h
    · rename_i ht
      have hok := (hτ _ _ ht).zero.resolve_left (by simp)
      simp only at hok
      split at h
      · rename_i hk
        rw [hk] at hok
        exact got_new (by simp only [execOp]) (plain_alloc _ _ _) (fun w => alloc_run hok) h
      · rename_i hk hone
        rw [hk] at hok
        simp only [List.headD_cons] at hok
        exact got_alloc hok (cellsL_one hone) (by simp only [execOp]) h
      · exact h.elim
    · obtain ⟨z, hz, hk⟩ := h.ex
      exact got_new (by simp only [execOp]) (plain_alloc _ _ _) (fun w => alloc_run hz) hk
  · split at h
    · rename_i f av ts _ g first caps hx
      have h1 := roAll_spec hf _ _ h
      have hmap : av.map a.eval = (av.toList.map a.eval).toArray := by rw [← List.map_toArray]
      have e : execOp a.eval ⟨dst, .call ⟨.value f, av, ts⟩, ty, pos, after, guard⟩ = callFunc g (first.toList ++ av.toList.map a.eval ++ caps.toList).toArray := by
        have e2 : first ++ (av.toList.map a.eval).toArray ++ caps = (first.toList ++ av.toList.map a.eval ++ caps.toList).toArray := by simp
        simp only [execOp, resolve, ro_eval hf hx, Deferred.ofValue, hmap]
        show callFunc g (first ++ (av.toList.map a.eval).toArray ++ caps) = _
        rw [e2]
      split at h1
      · rename_i h2 h3
        refine got_call ?_ h1
        rw [e, h2, h3]
        simp
      · rename_i h2 h3
        refine got_call ?_ h1
        rw [e, h2, h3]
        simp
      · rename_i h2
        refine got_call ?_ h1
        rw [e, h2]
    · exact h.elim
  · split at h
    · rename_i x name av ts _ t v hx
      obtain ⟨f, r, hm, hc⟩ := (roAll_spec hf _ _ h).ex
      have hmap : #[Value.iface t v] ++ av.map a.eval = #[Value.iface t v] ++ (av.toList.map a.eval).toArray := by rw [← List.map_toArray]
      have he : execOp a.eval ⟨dst, .call ⟨.invoke x name, av, ts⟩, ty, pos, after, guard⟩ = (do
          let p ← program
          let (f, r) ← Go.method (p.types.size + Made.depth) t v name
          callFunc f (#[r] ++ (av.toList.map a.eval).toArray)) := by
        simp only [execOp, resolve, ro_eval hf hx, hmap]
        show (do
          let recv := (#[Value.iface t v] ++ (av.toList.map a.eval).toArray)[0]?
          let some recv := recv | stuck "call: a method without a receiver"
          callMethod recv name ((#[Value.iface t v] ++ (av.toList.map a.eval).toArray).extract 1 (#[Value.iface t v] ++ (av.toList.map a.eval).toArray).size) : Sem Next) = _
        simp only [callMethod]
        simp
        rw [List.take_of_length_le (by simp)]
      have e3 : #[r] ++ (av.toList.map a.eval).toArray = (r :: av.toList.map a.eval).toArray := by simp
      have hq : ∀ {r' : Next} {w' : World}, Quiet P (callFunc f (r :: av.toList.map a.eval).toArray) w r' w' → Quiet P (execOp a.eval ⟨dst, .call ⟨.invoke x name, av, ts⟩, ty, pos, after, guard⟩) w r' w' := fun {r'} {w'} h => by
        rw [he]
        refine (Quiet.of (P := P) (s := program) (r := P) trivial rfl rfl rfl).bind ((hm w).bind ?_)
        show Quiet P (callFunc f (#[r] ++ (av.toList.map a.eval).toArray)) w r' w'
        rw [e3]
        exact h
      have hqL : ∀ {r' : Next} {w1 w' : World}, Loud P (callFunc f (r :: av.toList.map a.eval).toArray) w1 r' w' → Loud P (execOp a.eval ⟨dst, .call ⟨.invoke x name, av, ts⟩, ty, pos, after, guard⟩) w1 r' w' := fun {r'} {w1} {w'} h => by
        rw [he]
        refine Quiet.loud (Quiet.of (P := P) (s := program) (r := P) trivial rfl rfl rfl) (Quiet.loud (hm w1) ?_)
        show Loud P (callFunc f (#[r] ++ (av.toList.map a.eval).toArray)) w1 r' w'
        rw [e3]
        exact h
      rcases hc.ex with ⟨h1, h2⟩ | ⟨v, w', h1, h2⟩ | hl
      · exact .inr (.inr ⟨f, _, hq h1, h2.mono fun v w' hv => ⟨v, rfl, hv⟩⟩)
      · exact .inl ⟨.value v, w', hq h1, v, rfl, h2⟩
      · exact .inr (.inl fun n d => let ⟨v, w', h1, h2⟩ := hl n d; ⟨.value v, w', hqL h1, v, rfl, h2⟩)
    · exact h.elim
  · rename_i av ts
    have h1 := roAll_spec hf _ _ h
    have hmap : av.map a.eval = (av.toList.map a.eval).toArray := by rw [← List.map_toArray]
    refine got_run ?_ h1
    simp only [execOp, resolve, hmap]
    rfl
  · rename_i av ts
    have h1 := roAll_spec hf _ _ h
    have hmap : av.map a.eval = (av.toList.map a.eval).toArray := by rw [← List.map_toArray]
    refine got_run ?_ h1
    simp only [execOp, resolve, hmap]
    rfl
  · rename_i av ts
    have h1 := roAll_spec hf _ _ h
    have hmap : av.map a.eval = (av.toList.map a.eval).toArray := by rw [← List.map_toArray]
    refine got_run ?_ h1
    simp only [execOp, resolve, hmap]
    rfl
  · have h1 := roParts_spec hf _ _ h
    refine got_run ?_ h1
    simp only [execOp]
    rw [← List.map_toArray]
  · split at h
    · rename_i hl hc
      exact got_run (by simp only [execOp, ro_eval hf hl, ro_eval hf hc]) h
    · exact h.elim
  · exact got_run (by simp only [execOp, Option.map_none]) h
  · split at h
    · rename_i hl hc
      exact got_run (by simp only [execOp, ro_eval hf hl, ro_eval hf hc]) h
    · exact h.elim
  · split at h
    · rename_i h1 h2 h3
      exact Got.mono' (got_runU (by simp only [execOp, ro_eval hf h1, ro_eval hf h2, ro_eval hf h3]) h) fun v w' hv => hv.1 ▸ hv.2
    · exact h.elim
  · split at h
    · rename_i h1 h2 h3
      exact Got.mono' (got_runU (by simp only [execOp, ro_eval hf h1, ro_eval hf h2, ro_eval hf h3]) h) fun v w' hv => hv.1 ▸ hv.2
    · exact h.elim
  · split at h
    · rename_i hx
      exact got_run (by simp only [execOp, ro_eval hf hx]) h
    · exact h.elim
  · split at h
    · rename_i hx
      exact got_run (by simp only [execOp, ro_eval hf hx]) h
    · exact h.elim
  · split at h
    · rename_i hx
      exact got_run (by simp only [execOp, ro_eval hf hx]) h
    · exact h.elim
  · rename_i av ts
    have h1 := roAll_spec hf _ _ h
    have hmap : av.map a.eval = (av.toList.map a.eval).toArray := by rw [← List.map_toArray]
    refine got_run ?_ h1
    simp only [execOp, resolve, hmap]
    rfl
  · rename_i av ts
    have h1 := roAll_spec hf _ _ h
    have hmap : av.map a.eval = (av.toList.map a.eval).toArray := by rw [← List.map_toArray]
    split at h1
    · rename_i ad n c hv
      have e : Builtin.unsafeSliceData_ ts ty #[.slice (some ad) n c] = pure (Value.pointer (some ad)) := by
        show (if c ≠ 0 then pure (Value.pointer (some ad)) else _ : Sem Value) = _
        rw [if_pos h1.1]
      refine got_q (v := .pointer (some ad)) (s := pure (Value.pointer (some ad))) ?_ (.of trivial rfl rfl rfl) h1.2
      rw [← e]
      simp only [execOp, resolve, hmap, hv]
      rfl
    · exact h1.elim
  · exact h.elim

theorem put1_sound (hf : Fits N σ a) {dst : Option Nat} {v : Value} {k : Slots → Prop} (h : put1 N dst v σ k) : ∃ σ', Fits N σ' (a.put dst v) ∧ k σ' := by
  unfold put1 at h
  split at h
  · exact ⟨σ, hf, h⟩
  · split at h
    · rename_i hb
      exact ⟨_, hf.put (by simpa [Nat.blt_eq] using hb) v, h⟩
    · exact h.elim

theorem dstAt_eq (l : List Oper) (j : Nat) : dstAt l j = (l[j]?).bind (·.dst) := by
  induction l generalizing j with
  | nil => rfl
  | cons o r ih => cases j with
    | zero => rfl
    | succ j => simpa [dstAt] using ih j

theorem Fits.cons {d : Nat} {v : Value} (hf : Fits N σ a) (h : look σ d = some v) : Fits N ((d, v) :: σ) a := by
  refine ⟨hf.size, hf.defers, fun n u hn => ?_⟩
  unfold look at hn
  cases hb : Nat.beq d n with
  | true =>
    rw [hb] at hn
    have := Nat.eq_of_beq_eq_true hb
    subst this
    simp only [Option.some.injEq] at hn
    subst hn
    exact hf.vals _ _ h
  | false =>
    rw [hb] at hn
    exact hf.vals n u hn

theorem guard_sound (hf : Fits N σ a) {ops : Array Oper} {o : Oper} {yes no : Slots → Prop} (h : guardK N ops.toList o.guard σ yes no) :
    (Region.wanted o (yielded ops a.tmps) = true ∧ ∃ σ', Fits N σ' a ∧ yes σ') ∨ (Region.wanted o (yielded ops a.tmps) = false ∧ ∃ σ', Fits N σ' a ∧ no σ') := by
  unfold guardK at h
  split at h
  · rename_i hg
    exact .inl ⟨by simp [Region.wanted, hg], σ, hf, h⟩
  · rename_i j want hg
    split at h
    · exact h.elim
    · rename_i d hd
      rw [dstAt_eq] at hd
      split at h
      · rename_i b hb
        have hy : yielded ops a.tmps j = some b := by
          have := hf.vals d _ hb
          have hd' : (ops[j]?).bind (·.dst) = some d := by simpa using hd
          unfold yielded
          rw [hd']
          simp [this]
        have hw : Region.wanted o (yielded ops a.tmps) = (b == want) := by
          simp only [Region.wanted, hg, hy]
          cases b <;> cases want <;> rfl
        rw [hw]
        split at h
        · rcases br_elim h with ⟨rfl, h2⟩ | ⟨rfl, h2⟩
          · exact .inl ⟨rfl, _, hf.cons hb, h2⟩
          · exact .inr ⟨rfl, _, hf.cons hb, h2⟩
        · rcases br_elim h with ⟨rfl, h2⟩ | ⟨rfl, h2⟩
          · exact .inr ⟨rfl, _, hf.cons hb, h2⟩
          · exact .inl ⟨rfl, _, hf.cons hb, h2⟩
      · rename_i v _ hb
        split at h
        · exact h.elim
        · rename_i hv _
          have hy : yielded ops a.tmps j = none := by
            have := hf.vals d _ hb
            have hd' : (ops[j]?).bind (·.dst) = some d := by simpa using hd
            unfold yielded
            rw [hd']
            cases v <;> simp_all [isBool]
          have hw : Region.wanted o (yielded ops a.tmps) = false := by
            simp only [Region.wanted, hg, hy]
            cases want <;> rfl
          exact .inr ⟨hw, σ, hf, h⟩
      · exact h.elim

theorem ifaces_run (hf : Fits N σ a) {o : Oper} {bop : BinOp} {t : TypeId} {x y v : Value} (h : ifaces σ o.op = some (bop, t, x, y)) (hv : Quiet P (Go.binOp bop t x y) w v w) : Quiet P (execOp a.eval o) w (.value v) w := by
  obtain ⟨dst, op, ty, pos, after, g⟩ := o
  simp only at h
  unfold ifaces at h
  split at h
  · split at h
    · rename_i hx hy
      simp only [Option.some.injEq, Prod.mk.injEq] at h
      obtain ⟨rfl, rfl, rfl, rfl⟩ := h
      simp only [execOp, ro_eval hf hx, ro_eval hf hy]
      have hg : ∀ (bop : BinOp) (t : TypeId) (x y : Operand) (c d : TypeId) (u v : Value), eqGuard bop t x y (.iface c u) (.iface d v) = (pure () : Sem Unit) := by
        intro bop t x y c d u v
        unfold eqGuard
        cases bop <;> rfl
      rw [hg]
      exact hv.map
    · cases h
  · cases h

theorem drop_cons {α : Type} {l : List α} {i : Nat} {x : α} {r : List α} (h : l.drop i = x :: r) : l[i]? = some x ∧ l.drop (i + 1) = r := by
  have h1 : l[i]? = some x := by
    have := congrArg List.head? h
    simpa [List.head?_drop] using this
  refine ⟨h1, ?_⟩
  have := congrArg List.tail h
  simpa [List.tail_drop] using this
theorem ops_sound (hτ : TabOk P τ) {ops : Array Oper} {R : Exit → Act → World → Prop} {Q : Slots → World → Prop} (hQ : ∀ a w σ, Fits N σ a → Q σ w → R .normal a w) :
    ∀ (l : List Oper) (i : Nat) (σ : Slots) (a : Act) (w : World), ops.toList.drop i = l → Fits N σ a → evOps P τ N ops.toList l Q σ w → gops P ops (List.range' i l.length) R a w
  | [], i, σ, a, w, _, hf, h => gops_nil (hQ a w σ hf h)
  | o :: rest, i, σ, a, w, hd, hf, h => by
    obtain ⟨dst, op, ty, pos, after, g⟩ := o
    obtain ⟨hi, hd'⟩ := drop_cons hd
    have ho : ops[i]? = some ⟨dst, op, ty, pos, after, g⟩ := by simpa using hi
    unfold evOps at h
    rw [List.length_cons, List.range'_succ]
    rcases guard_sound (o := ⟨dst, op, ty, pos, after, g⟩) hf h with ⟨hw, σ', hf', h2⟩ | ⟨hw, σ', hf', h2⟩
    · refine gops_cons ho hw ?_
      split at h2
      · split at h2
        · rename_i hif
          obtain ⟨v, hv, h3⟩ := h2.ex
          obtain ⟨σ'', hf'', h4⟩ := put1_sound hf' h3
          exact .inl ⟨.value v, w, ifaces_run hf' (o := ⟨dst, op, ty, pos, after, g⟩) hif hv, ops_sound hτ hQ rest (i + 1) σ'' _ w hd' hf'' h4⟩
        · have hp := pure_plain (o := ⟨dst, op, ty, pos, after, g⟩) hτ hf' h2
          obtain ⟨v, hv, h3⟩ := pure_sound (o := ⟨dst, op, ty, pos, after, g⟩) hτ hf' h2
          obtain ⟨σ'', hf'', h4⟩ := put1_sound hf' h3
          exact .inl ⟨.value v, w, .of hp (hv w) rfl rfl, ops_sound hτ hQ rest (i + 1) σ'' _ w hd' hf'' h4⟩
      · refine gOp_mono ?_ (world_sound (o := ⟨dst, op, ty, pos, after, g⟩) hτ hf' h2)
        rintro a' w' ⟨v, rfl, h3⟩
        obtain ⟨σ'', hf'', h4⟩ := put1_sound hf' h3
        exact ops_sound hτ hQ rest (i + 1) σ'' _ w' hd' hf'' h4
    · refine gops_unwanted ho hw ?_
      obtain ⟨σ'', hf'', h4⟩ := put1_sound hf' h2
      exact ops_sound hτ hQ rest (i + 1) σ'' _ w hd' hf'' h4

theorem ev_sound (hτ : TabOk P τ) : ∀ (c : Code) (Q : Exit → Slots → World → Prop) (σ : Slots) (a : Act) (w : World), Fits N σ a → ev P τ N c Q σ w → gwp P c (lift N Q) a w
  | .skip, Q, σ, a, w, hf, h => gwp_skip ⟨σ, hf, h⟩
  | .region id ops false, Q, σ, a, w, hf, h => by
    have := ops_sound (R := lift N Q) hτ (Q := fun σ w => Q .normal σ w) (fun a w σ hf hq => ⟨σ, hf, hq⟩) ops.toList 0 σ a w (by simp) hf h
    refine gwp_region ?_
    rw [List.range_eq_range']
    simpa using this
  | .region id ops true, Q, σ, a, w, hf, h => by
    have h : DrawC P τ N ops (fun σ w => Q .normal σ w) σ w := h
    refine gwp_mono (h.go id a hf) ?_
    rintro e a w ⟨rfl, σ', hf', hq⟩
    exact ⟨σ', hf', hq⟩
  | .seq x y, Q, σ, a, w, hf, h => by
    refine gwp_seq (gwp_mono (ev_sound hτ x _ σ a w hf h) ?_)
    intro e a w hq
    cases e with
    | normal =>
      obtain ⟨σ', hf', hq⟩ := hq
      exact ev_sound hτ y Q σ' a w hf' hq
    | exit i => exact hq
    | ret => exact hq
    | goto l => exact hq.elim
    | panic c => exact hq.elim
    | outgrown => exact hq.elim
  | .cond c x y, Q, σ, a, w, hf, h => by
    unfold ev at h
    split at h
    · rename_i b hb
      refine gwp_cond_split (ro_eval hf hb) (fun ht => ?_) (fun ht => ?_)
      · subst ht; exact ev_sound hτ x Q σ a w hf h
      · subst ht; exact ev_sound hτ y Q σ a w hf h
    · exact h.elim
  | .block id c, Q, σ, a, w, hf, h => by
    refine gwp_block (gwp_mono (ev_sound hτ c _ σ a w hf h) ?_)
    intro e a w hq
    cases e with
    | normal => exact hq
    | exit i =>
      obtain ⟨σ', hf', hq⟩ := hq
      simp only at hq
      unfold Exit.inBlock
      simp only
      split at hq
      · rename_i hb
        rw [if_pos (Nat.eq_of_beq_eq_true hb)]
        exact ⟨σ', hf', hq⟩
      · rename_i hb
        rw [if_neg (Nat.ne_of_beq_eq_false hb)]
        exact ⟨σ', hf', hq⟩
    | ret => exact hq
    | goto l => exact hq.elim
    | panic c => exact hq.elim
    | outgrown => exact hq.elim
  | .loop c, Q, σ, a, w, hf, h => by
    have h : LoopC P τ N c Q σ w := h
    exact h.go a hf
  | .exit i, Q, σ, a, w, hf, h => gwp_exit ⟨σ, hf, h⟩
  | .ret, Q, σ, a, w, hf, h => gwp_ret ⟨σ, hf, h⟩
  | .rangeFunc _ _ _ _, _, _, _, _, _, h => h.elim
  | .scope _, _, _, _, _, _, h => h.elim
  | .label _, _, _, _, _, _, h => h.elim
  | .goto _, _, _, _, _, _, h => h.elim
  | .refuse _, _, _, _, _, _, h => h.elim
end
end Go.Proofs.YtgcbcagaibecbaaGreatDoor.Ev

namespace Go.Proofs.YtgcbcagaibecbaaGreatDoor.Ev
open Go
variable [Go.Proofs.YtgcbcagaibecbaaGreatDoor.Gap.Leaps]
section
variable (P : Program) (τ : Tab) (N : Nat)
def evStep (ops : List Oper) (o : Oper) (K : Slots → World → Prop) (σ : Slots) (w : World) : Prop :=
  guardK N ops o.guard σ
    (fun σ => match isPure o.op with
      | true => (match ifaces σ o.op with
        | some (bop, t, x, y) => IfEqC P bop t x y w fun v => put1 N o.dst v σ fun σ => K σ w
        | none => pureOp P τ σ o.op fun v => put1 N o.dst v σ fun σ => K σ w)
      | false => worldOp P τ σ o.op w fun v w => put1 N o.dst v σ fun σ => K σ w)
    (fun σ => put1 N o.dst undef σ fun σ => K σ w)
def evOpsR (ops : List Oper) (Q : Slots → World → Prop) (l : List Oper) : Slots → World → Prop :=
  List.rec (motive := fun _ => Slots → World → Prop) Q (fun o _ ih => evStep P τ N ops o ih) l
theorem evOpsR_eq (ops : List Oper) (Q : Slots → World → Prop) : ∀ l : List Oper, evOpsR P τ N ops Q l = fun σ w => evOps P τ N ops l Q σ w
  | [] => rfl
  | o :: r => by
    have ih := evOpsR_eq ops Q r
    show evStep P τ N ops o (evOpsR P τ N ops Q r) = _
    rw [ih]
    rfl

abbrev EQ := Exit → Slots → World → Prop
abbrev EV := EQ → Slots → World → Prop
def rSkip : EV := fun Q σ w => Q .normal σ w
def rNone : EV := fun _ _ _ => False
def rRegion (_ : Nat) (ops : Array Oper) (draw : Bool) : EV := fun Q σ w => match draw with
  | false => evOpsR P τ N ops.toList (Q .normal) ops.toList σ w
  | true => DrawC P τ N ops (Q .normal) σ w
def seqQ (K : EV) (Q : EQ) : EQ := fun e σ w => match e with
  | .normal => K Q σ w
  | e => Q e σ w
def rCond (c : Operand) (x y : EV) : EV := fun Q σ w => match ro σ c with
  | some (.bool b) => br b (x Q σ w) (y Q σ w)
  | _ => False
def blockQ (id : Nat) (Q : EQ) : EQ := fun e σ w => match e with
  | .exit i => (match Nat.beq i id with
    | true => Q .normal σ w
    | false => Q (.exit i) σ w)
  | e => Q e σ w
def evR (c : Code) : EV :=
  Code.rec (motive := fun _ => EV) rSkip (rRegion P τ N) (fun _ _ x y Q => x (seqQ y Q)) (fun c _ _ x y => rCond c x y) (fun id _ x Q => x (blockQ id Q)) (fun c _ Q σ w => LoopC P τ N c Q σ w)
    (fun _ _ _ _ _ _ => rNone) (fun i Q => Q (.exit i)) (fun _ _ => rNone) (fun _ => rNone) (fun _ => rNone) (fun Q => Q .ret) (fun _ => rNone) c
theorem evR_eq : ∀ c : Code, evR P τ N c = ev P τ N c
  | .skip => rfl
  | .region id ops false => by
    funext Q σ w
    show evOpsR P τ N ops.toList (Q .normal) ops.toList σ w = _
    rw [evOpsR_eq]
    rfl
  | .region id ops true => rfl
  | .seq x y => by
    funext Q σ w
    have e : seqQ (ev P τ N y) Q = (fun e σ w => match e with
      | .normal => ev P τ N y Q σ w
      | e => Q e σ w) := by funext e; cases e <;> rfl
    show evR P τ N x (seqQ (evR P τ N y) Q) σ w = _
    rw [evR_eq x, evR_eq y, e]
    rfl
  | .cond c x y => by
    show rCond c (evR P τ N x) (evR P τ N y) = _
    rw [evR_eq x, evR_eq y]
    funext Q σ w
    unfold rCond
    rfl
  | .block id c => by
    funext Q σ w
    have e : blockQ id Q = (fun e σ w => match e with
      | .exit i => (match Nat.beq i id with
        | true => Q .normal σ w
        | false => Q (.exit i) σ w)
      | e => Q e σ w) := by funext e; cases e <;> rfl
    show evR P τ N c (blockQ id Q) σ w = _
    rw [evR_eq c, e]
    rfl
  | .loop c => rfl
  | .exit i => rfl
  | .ret => rfl
  | .rangeFunc _ _ _ _ => rfl
  | .scope _ => rfl
  | .label _ => rfl
  | .goto _ => rfl
  | .refuse _ => rfl
end
end Go.Proofs.YtgcbcagaibecbaaGreatDoor.Ev

namespace Go.Proofs.YtgcbcagaibecbaaGreatDoor.Ev
set_option maxRecDepth 20000
open Go Gap
variable [Go.Proofs.YtgcbcagaibecbaaGreatDoor.Gap.Leaps]

def initS : Nat → List Value → Slots
  | _, [] => []
  | i, v :: r => (i, v) :: initS (i + 1) r

structure RetC (p : Prop) : Prop where
  h : p

def resK (τ : Tab) (σ : Slots) (w : World) : List ResultVar → (List Value → Prop) → Prop
  | [], k => k []
  | .tmp t :: r, k => match look σ t with
    | some v => resK τ σ w r fun vs => k (v :: vs)
    | none => False
  | .cell x t :: r, k => match look σ x, tl τ t with
    | some (.pointer (some ⟨b, o, none⟩)), some ⟨n, kd, _⟩ => (match kd.agg with
      | true => LdA w b o n fun v => resK τ σ w r fun vs => k (v :: vs)
      | false => LdC w b o fun v => resK τ σ w r fun vs => k (v :: vs))
    | _, _ => False

def bodyQ (τ : Tab) (rs : List ResultVar) (R : Value → World → Prop) : Exit → Slots → World → Prop := fun e σ w =>
  match e with
  | .normal | .ret => resK τ σ w rs fun vs => match vs with
    | [v] => RetC (R v w)
    | vs => RetC (R (.tuple vs.toArray) w)
  | _ => False

section
variable {P : Program} {τ : Tab} {N : Nat} {σ : Slots} {a : Act} {w : World}

theorem initS_look : ∀ (l : List Value) (i n : Nat) (v : Value), look (initS i l) n = some v → i ≤ n ∧ l[n - i]? = some v
  | [], _, _, _, h => by cases h
  | x :: l, i, n, v, h => by
    unfold initS look at h
    cases hb : Nat.beq i n with
    | true =>
      rw [hb] at h
      have := Nat.eq_of_beq_eq_true hb
      subst this
      simp only [Option.some.injEq] at h
      subst h
      simp
    | false =>
      rw [hb] at h
      obtain ⟨h1, h2⟩ := initS_look l (i + 1) n v h
      refine ⟨by omega, ?_⟩
      rw [show n - i = (n - (i + 1)) + 1 by omega]
      simpa using h2

theorem fits_init {args : List Value} (h : args.length ≤ N) : Fits N (initS 0 args) { tmps := args.toArray ++ Array.replicate (N - args.toArray.size) undef, defers := [] } := by
  refine ⟨by simp; omega, rfl, fun n v hn => ?_⟩
  obtain ⟨_, h2⟩ := initS_look args 0 n v hn
  have h3 : args[n]? = some v := by simpa using h2
  have hlt : n < args.length := (List.getElem?_eq_some_iff.1 h3).1
  rw [Array.getElem?_append_left (by simpa using hlt)]
  simpa using h3

theorem ldv_sound {t : TypeId} {n : Nat} {kd : TK} {z : List Value} {b o : Nat} (hτ : TabOk P τ) (ht : tl τ t = some ⟨n, kd, z⟩) {k : Value → Prop}
    (h : match kd.agg with | true => LdA w b o n k | false => LdC w b o k) : ∃ v, (loadVar t ⟨b, o, none⟩).run P w = .ok v w ∧ k v := by
  obtain ⟨v, hr, hk⟩ := load_sound hτ ht h
  refine ⟨v, ?_, hk⟩
  simpa [Instr.loadAt, Instr.sureAddr] using hr

def resOne (tmps : Array Value) : ResultVar → Sem Value
  | .tmp t => pure (tmps.getD t undef)
  | .cell x t => do loadVar t (← asAddr (tmps.getD x undef))
theorem results_eq (fn : Func) (tmps : Array Value) : results fn tmps = (do let vs ← fn.results.mapM (resOne tmps); pure (if h : vs.size = 1 then vs[0] else .tuple vs)) := by
  unfold results
  congr 1

theorem resK_sound (hτ : TabOk P τ) (hf : Fits N σ a) : ∀ (rs : List ResultVar) (k : List Value → Prop), resK τ σ w rs k →
    ∃ vs : List Value, (rs.mapM (resOne a.tmps)).run P w = .ok vs w ∧ k vs ∧ vs.length = rs.length
  | [], k, h => ⟨[], rfl, h, rfl⟩
  | .tmp t :: r, k, h => by
    unfold resK at h
    split at h
    · rename_i v hv
      obtain ⟨vs, h1, h2, h3⟩ := resK_sound hτ hf r _ h
      have hx := hf.vals t v hv
      refine ⟨v :: vs, ?_, h2, by simp [h3]⟩
      have e : (resOne a.tmps (.tmp t)).run P w = .ok v w := by simp [resOne, hx]
      rw [List.mapM_cons, Sem.run_bind, e, Result.andThen_ok, Sem.run_bind, h1]
      rfl
    · exact h.elim
  | .cell x t :: r, k, h => by
    unfold resK at h
    split at h
    · rename_i b o n kd z hx ht
      obtain ⟨v, hr, hk⟩ := ldv_sound hτ ht h
      obtain ⟨vs, h1, h2, h3⟩ := resK_sound hτ hf r _ hk
      have hx := hf.vals x _ hx
      refine ⟨v :: vs, ?_, h2, by simp [h3]⟩
      have e : (resOne a.tmps (.cell x t)).run P w = .ok v w := by
        simp [resOne, hx, asAddr, hr]
      rw [List.mapM_cons, Sem.run_bind, e, Result.andThen_ok, Sem.run_bind, h1]
      rfl
    · exact h.elim

def BodyG (P : Program) (f : FuncId) (args : Array Value) (w : World) (R : Value → World → Prop) : Prop :=
  ∃ fn c, P.funcs[f]? = some fn ∧ fn.body = some c ∧ gwp P c (bodyG P fn R) { tmps := args ++ Array.replicate (fn.ntmps - args.size) undef, defers := [] } w
theorem fn_body (hτ : TabOk P τ) {f : FuncId} {fn : Func} {c : Code} {args : List Value} {R : Value → World → Prop} (hf : P.funcs[f]? = some fn) (hb : fn.body = some c) (hN : fn.ntmps = N)
    (hle : args.length ≤ N) (h : evR P τ N c (bodyQ τ fn.results.toList R) (initS 0 args) w) : BodyG P f args.toArray w R := by
  rw [evR_eq] at h
  refine ⟨fn, c, hf, hb, ?_⟩
  rw [hN]
  refine gwp_mono (ev_sound hτ c _ _ _ w (fits_init hle) h) ?_
  have fin : ∀ (σ : Slots) (a : Act) (w : World), Fits N σ a → (resK τ σ w fn.results.toList fun vs => match vs with
    | [v] => RetC (R v w)
    | vs => RetC (R (.tuple vs.toArray) w)) → a.defers = [] ∧ ∃ v, Quiet P (results fn a.tmps) w v w ∧ R v w := by
    intro σ a w hfit hq
    refine ⟨hfit.defers, ?_⟩
    obtain ⟨vs, h1, h2, h3⟩ := resK_sound hτ hfit _ _ hq
    have hm : (fn.results.mapM (resOne a.tmps)).run P w = .ok vs.toArray w := by
      rw [Array.mapM_eq_mapM_toList, Sem.run_map, h1]
      rfl
    have hres : (results fn a.tmps).run P w = .ok (if h : vs.toArray.size = 1 then vs.toArray[0] else .tuple vs.toArray) w := by
      rw [results_eq, Sem.run_bind, hm]
      rfl
    refine ⟨_, .of (plain_results _ _) hres rfl rfl, ?_⟩
    split at h2
    · simpa using h2.h
    · rename_i hne
      rw [dif_neg (by
        intro hs
        match vs, hs with
        | [v], _ => exact hne v rfl)]
      exact h2.h
  intro e a w hq
  cases e with
  | normal => obtain ⟨σ, hfit, hq⟩ := hq; exact fin σ a w hfit hq
  | ret => obtain ⟨σ, hfit, hq⟩ := hq; exact fin σ a w hfit hq
  | exit i => obtain ⟨σ, hfit, hq⟩ := hq; exact hq.elim
  | goto l => exact hq.elim
  | panic c => exact hq.elim
  | outgrown => exact hq.elim

theorem fn_intro (hτ : TabOk P τ) {f : FuncId} {fn : Func} {c : Code} {args : List Value} {R : Value → World → Prop} (hf : P.funcs[f]? = some fn) (hname : (fn.name == "runtime.NumGoroutine") = false) (hb : fn.body = some c) (hN : fn.ntmps = N)
    (hle : args.length ≤ N) (h : evR P τ N c (bodyQ τ fn.results.toList R) (initS 0 args) w) : CallC P f args.toArray w R := by
  have hcf := callFunc_body (P := P) args.toArray hf hname (by rw [hb]; rfl)
  exact ⟨.inl ⟨.of hcf.1 (hcf.2 w) rfl rfl, ⟨.inl (fn_body hτ hf hb hN hle h)⟩⟩⟩

def Sub : Slots → Slots → Prop
  | [], _ => True
  | (n, v) :: r, σ => look σ n = some v ∧ Sub r σ
theorem Sub.look_ : ∀ {σ' σ : Slots}, Sub σ' σ → ∀ n v, look σ' n = some v → look σ n = some v
  | [], _, _, _, _, h => by cases h
  | (m, u) :: r, σ, hs, n, v, h => by
    unfold look at h
    cases hb : Nat.beq m n with
    | true =>
      rw [hb] at h
      have := Nat.eq_of_beq_eq_true hb
      subst this
      simp only [Option.some.injEq] at h
      subst h
      exact hs.1
    | false =>
      rw [hb] at h
      exact Sub.look_ hs.2 n v h

structure LoopE (I : Slots → World → Nat → Prop) (n : Nat) (σ : Slots) (w : World) : Prop where
  ex : ∃ n' σ', n' < n ∧ Sub σ' σ ∧ I σ' w n'

def loopQ (I : Slots → World → Nat → Prop) (n : Nat) (Q : Exit → Slots → World → Prop) : Exit → Slots → World → Prop := fun e σ w =>
  match e with
  | .normal => LoopE I n σ w
  | e => Q e σ w

theorem loopR (hτ : TabOk P τ) {body : Code} {Q : Exit → Slots → World → Prop} (I : Slots → World → Nat → Prop) {σ' : Slots} {n : Nat} (hs : Sub σ' σ) (h0 : I σ' w n)
    (hr : ∀ σ w n, I σ w n → evR P τ N body (loopQ I n Q) σ w) : LoopC P τ N body Q σ w := by
  simp only [evR_eq] at hr
  refine ⟨fun a hf => gwp_loop (fun n a w => ∃ σ, Fits N σ a ∧ I σ w n) ⟨σ', hf.weaken hs.look_, h0⟩ fun n a w ⟨σ, hf, hI⟩ => ?_⟩
  refine gwp_mono (ev_sound hτ body _ σ a w hf (hr σ w n hI)) fun e a w hq => ?_
  cases e with
  | normal =>
    obtain ⟨σ₁, hf₁, hq⟩ := hq
    obtain ⟨n', σ₂, hlt, hsub, hI'⟩ := hq.ex
    exact ⟨n', hlt, σ₂, hf₁.weaken hsub.look_, hI'⟩
  | exit id => exact hq
  | ret => exact hq
  | goto l => exact hq.elim
  | panic ch => exact hq.elim
  | outgrown => exact hq.elim

structure LdF (S : World → Prop) (b o : Nat) (k : Value → Prop) : Prop where
  ex : ∃ v, (∀ w, S w → w.cell? ⟨b, o, none⟩ = some v) ∧ k v
structure LdG (S : World → Prop) (b o n : Nat) (k : Value → Prop) : Prop where
  ex : ∃ l : List Value, l.length = n ∧ (∀ w, S w → CellsAt w b o l) ∧ k (.agg l.toArray)
structure KeepC (p q : Prop) : Prop where
  keep : p
  go : q

def nthO : List Oper → Nat → Option Oper
  | [], _ => none
  | o :: _, 0 => some o
  | _ :: r, n + 1 => nthO r n
theorem nthO_eq (l : List Oper) (n : Nat) : nthO l n = l[n]? := by
  induction l generalizing n with
  | nil => rfl
  | cons x r ih => cases n with
    | zero => rfl
    | succ n => simpa [nthO] using ih n

def memN : List Nat → Nat → Bool
  | [], _ => false
  | m :: r, n => match Nat.beq m n with | true => true | false => memN r n

def isLoad : Op → Bool
  | .load .. => true
  | _ => false

def floats (late : List Nat) (i : Nat) (op : Op) : Bool :=
  match isPure op with
  | true => true
  | false => match isLoad op with
    | true => !memN late i
    | false => false

def evDraw (P : Program) (τ : Tab) (N : Nat) (ops : Array Oper) (late : List Nat) (S : World → Prop) : List Nat → (Slots → World → Prop) → Slots → World → Prop
  | [], Q, σ, w => Q σ w
  | i :: rest, Q, σ, w => match nthO ops.toList i with
    | some ⟨dst, op, _, _, _, g⟩ => guardK N ops.toList g σ
        (fun σ => match isPure op with
          | true => pureOp P τ σ op fun v => put1 N dst v σ fun σ => evDraw P τ N ops late S rest Q σ w
          | false => match floats late i op with
            | true => (match op with
              | .load t x => match ro σ x, tl τ t with
                | some (.pointer (some ⟨b, o, none⟩)), some ⟨n, kd, _⟩ => (match kd.agg with
                  | true => LdG S b o n fun v => put1 N dst v σ fun σ => evDraw P τ N ops late S rest Q σ w
                  | false => LdF S b o fun v => put1 N dst v σ fun σ => evDraw P τ N ops late S rest Q σ w)
                | _, _ => False
              | _ => False)
            | false => worldOp P τ σ op w fun v w => KeepC (S w) (put1 N dst v σ fun σ => evDraw P τ N ops late S rest Q σ w))
        (fun σ => put1 N dst undef σ fun σ => evDraw P τ N ops late S rest Q σ w)
    | none => False

def drawStep (P : Program) (τ : Tab) (N : Nat) (ops : Array Oper) (late : List Nat) (S : World → Prop) (i : Nat) (K : Slots → World → Prop) (σ : Slots) (w : World) : Prop :=
  match nthO ops.toList i with
  | some ⟨dst, op, _, _, _, g⟩ => guardK N ops.toList g σ
      (fun σ => match isPure op with
        | true => pureOp P τ σ op fun v => put1 N dst v σ fun σ => K σ w
        | false => match floats late i op with
          | true => (match op with
            | .load t x => match ro σ x, tl τ t with
              | some (.pointer (some ⟨b, o, none⟩)), some ⟨n, kd, _⟩ => (match kd.agg with
                | true => LdG S b o n fun v => put1 N dst v σ fun σ => K σ w
                | false => LdF S b o fun v => put1 N dst v σ fun σ => K σ w)
              | _, _ => False
            | _ => False)
          | false => worldOp P τ σ op w fun v w => KeepC (S w) (put1 N dst v σ fun σ => K σ w))
      (fun σ => put1 N dst undef σ fun σ => K σ w)
  | none => False
def evDrawR (P : Program) (τ : Tab) (N : Nat) (ops : Array Oper) (late : List Nat) (S : World → Prop) (order : List Nat) (Q : Slots → World → Prop) : Slots → World → Prop :=
  List.rec (motive := fun _ => Slots → World → Prop) Q (fun i _ ih => drawStep P τ N ops late S i ih) order
theorem evDrawR_eq (P : Program) (τ : Tab) (N : Nat) (ops : Array Oper) (late : List Nat) (S : World → Prop) (Q : Slots → World → Prop) : ∀ order : List Nat, evDrawR P τ N ops late S order Q = fun σ w => evDraw P τ N ops late S order Q σ w
  | [] => rfl
  | i :: r => by
    have ih := evDrawR_eq P τ N ops late S Q r
    show drawStep P τ N ops late S i (evDrawR P τ N ops late S r Q) = _
    rw [ih]
    funext σ w
    unfold drawStep
    rw [evDraw]

def orderOk (ops : Array Oper) (late : List Nat) : List Nat → Array Bool → Bool
  | [], listed => (Region.ready .any ops listed).isEmpty
  | i :: r, listed => (match ops[i]? with
    | some o => (match floats late i o.op with
      | true => Region.free .any ops listed i && (Region.ready .any ops listed).contains i
      | false => Region.ready .any ops listed == [i])
    | none => false) && orderOk ops late r (listed.setIfInBounds i true)

theorem draw_sound (hτ : TabOk P τ) {ops : Array Oper} {late : List Nat} {S : World → Prop} {Q : Slots → World → Prop} {R : Exit → Act → World → Prop} (hs : Region.noSelect ops = true) (hQ : ∀ a w σ, Fits N σ a → Q σ w → R .normal a w) :
    ∀ (order : List Nat) (listed : Array Bool) (σ : Slots) (a : Act) (w : World), Fits N σ a → S w → orderOk ops late order listed = true → evDraw P τ N ops late S order Q σ w → AnyG P ops R S order.length listed a w
  | [], listed, σ, a, w, hf, hS, hok, h => by
    unfold orderOk at hok
    exact ⟨by simpa using hok, hQ a w σ hf h⟩
  | i :: rest, listed, σ, a, w, hf, hS, hok, h => by
    unfold orderOk at hok
    unfold evDraw at h
    rw [nthO_eq] at h
    cases ho : ops[i]? with
    | none =>
      have : ops.toList[i]? = none := by simpa using ho
      rw [this] at h; exact h.elim
    | some o =>
      have hol : ops.toList[i]? = some o := by simpa using ho
      rw [hol] at h
      rw [ho] at hok
      obtain ⟨dst, op, ty, pos, after, g⟩ := o
      simp only [Bool.and_eq_true] at hok
      obtain ⟨hok1, hok2⟩ := hok
      simp only at h
      have take : ∀ (v : Value), YieldsG P ops S ⟨dst, op, ty, pos, after, g⟩ v a → floats late i op = true → AnyG P ops R S rest.length (listed.setIfInBounds i true) (a.put dst v) w → AnyG P ops R S (i :: rest).length listed a w := by
        intro v hy hfl hgo
        rw [hfl] at hok1
        simp only [Bool.and_eq_true] at hok1
        exact anyG_take (oi := ⟨dst, op, ty, pos, after, g⟩) ho hs hok1.1 hok1.2 hy hS hgo
      rcases guard_sound (o := ⟨dst, op, ty, pos, after, g⟩) hf h with ⟨hw, σ', hf', h2⟩ | ⟨hw, σ', hf', h2⟩
      · cases hp : isPure op with
        | true =>
          rw [hp] at h2
          have hp' := pure_plain (o := ⟨dst, op, ty, pos, after, g⟩) hτ hf' h2
          obtain ⟨v, hv, h3⟩ := pure_sound (o := ⟨dst, op, ty, pos, after, g⟩) hτ hf' h2
          obtain ⟨σ'', hf'', h4⟩ := put1_sound hf' h3
          exact take v (.inl ⟨hw, fun w _ => .of hp' (hv w) rfl rfl⟩) (by simp [floats, hp]) (draw_sound hτ hs hQ rest _ σ'' _ w hf'' hS hok2 h4)
        | false =>
          rw [hp] at h2
          simp only at h2
          cases hfl : floats late i op with
          | true =>
            rw [hfl] at h2
            simp only at h2
            split at h2
            · rename_i t x
              split at h2
              · rename_i b o n kd z hx ht
                have hyield : ∃ v, (∀ w, S w → (Instr.loadAt t (.pointer (some ⟨b, o, none⟩))).run P w = .ok v w) ∧ put1 N dst v σ' fun σ => evDraw P τ N ops late S rest Q σ w := by
                  cases hk : kd.agg with
                  | true =>
                    rw [hk] at h2
                    obtain ⟨l, hl, hc, hv⟩ := h2.ex
                    refine ⟨_, fun w' hw' => ?_, hv⟩
                    obtain ⟨v, hr, hv⟩ := load_sound (P := P) (w := w') (b := b) (o := o) (k := fun v => v = .agg l.toArray) hτ ht (by rw [hk]; exact ⟨l, hl, hc w' hw', rfl⟩)
                    rw [hr, hv]
                  | false =>
                    rw [hk] at h2
                    obtain ⟨v, hc, hv⟩ := h2.ex
                    refine ⟨v, fun w' hw' => ?_, hv⟩
                    obtain ⟨u, hr, hu⟩ := load_sound (P := P) (w := w') (b := b) (o := o) (k := fun u => u = v) hτ ht (by rw [hk]; exact ⟨v, hc w' hw', rfl⟩)
                    rw [hr, hu]
                obtain ⟨v, hv, h3⟩ := hyield
                obtain ⟨σ'', hf'', h4⟩ := put1_sound hf' h3
                refine take v (.inl ⟨hw, fun w' hw' => ?_⟩) hfl (draw_sound hτ hs hQ rest _ σ'' _ w hf'' hS hok2 h4)
                refine .of ?_ ?_ rfl rfl
                · simp only [execOp]
                  exact plain_v (plain_loadAt _ _)
                · simp only [execOp, ro_eval hf' hx]
                  exact vrun (hv w' hw')
              · exact h2.elim
            · exact h2.elim
          | false =>
            rw [hfl] at h2 hok1
            simp only [beq_iff_eq] at h2 hok1
            refine anyG_all (rs := [i]) hok1 (by simp) ?_
            intro j hj
            obtain rfl : j = i := by simpa using hj
            unfold gOpAt
            rw [ho]
            simp only [hw, if_true]
            refine gOp_mono ?_ (world_sound (o := ⟨dst, op, ty, pos, after, g⟩) hτ hf' h2)
            rintro a' w' ⟨v, rfl, h3⟩
            obtain ⟨σ'', hf'', h4⟩ := put1_sound hf' h3.go
            exact ⟨h3.keep, draw_sound hτ hs hQ rest _ σ'' _ w' hf'' h3.keep hok2 h4⟩
      · obtain ⟨σ'', hf'', h4⟩ := put1_sound hf' h2
        cases hfl : floats late i op with
        | true => exact take undef (.inr ⟨hw, rfl⟩) hfl (draw_sound hτ hs hQ rest _ σ'' _ w hf'' hS hok2 h4)
        | false =>
          rw [hfl] at hok1
          simp only [beq_iff_eq] at hok1
          refine anyG_all (rs := [i]) hok1 (by simp) ?_
          intro j hj
          obtain rfl : j = i := by simpa using hj
          unfold gOpAt
          rw [ho]
          simp only [hw, Bool.false_eq_true, if_false]
          exact ⟨hS, draw_sound hτ hs hQ rest _ σ'' _ w hf'' hS hok2 h4⟩

theorem drawR (hτ : TabOk P τ) (hm : P.follows .mixedOrders = true) {ops : Array Oper} {Q : Slots → World → Prop} (late : List Nat) (S : World → World → Prop) (order : List Nat)
    (hok : (Region.noSelect ops && Nat.beq order.length ops.size && orderOk ops late order (Array.replicate ops.size false)) = true)
    (hS : S { w with drawn := w.drawn + 1 } { w with drawn := w.drawn + 1 }) (h : evDraw P τ N ops late (S { w with drawn := w.drawn + 1 }) order Q σ { w with drawn := w.drawn + 1 }) : DrawC P τ N ops Q σ w := by
  simp only [Bool.and_eq_true] at hok
  refine ⟨fun id a hf => ?_⟩
  refine gwp_region_held (S := S { w with drawn := w.drawn + 1 }) hm ?_
  have hlen : order.length = ops.size := Nat.eq_of_beq_eq_true hok.1.2
  have := draw_sound (R := fun e a' w' => e = .normal ∧ ∃ σ', Fits N σ' a' ∧ Q σ' w') hτ hok.1.1 (fun a w σ hf hq => ⟨rfl, σ, hf, hq⟩) order _ σ a _ hf hS hok.2 h
  rw [hlen] at this
  exact this
end
end Go.Proofs.YtgcbcagaibecbaaGreatDoor.Ev

namespace Go.Proofs.YtgcbcagaibecbaaGreatDoor.Ev
set_option maxRecDepth 20000
open Go Gap
variable [Go.Proofs.YtgcbcagaibecbaaGreatDoor.Gap.Leaps]

structure Ext (S : Nat → Prop) (w w' : World) : Prop where
  os : w'.os = w.os
  tape : w'.tape = w.tape
  output : w'.output = w.output
  size : w.heap.size ≤ w'.heap.size
  block : ∀ k, k < w.heap.size → ¬ S k → w'.heap[k]? = w.heap[k]?

abbrev No : Nat → Prop := fun _ => False

section
variable {S T : Nat → Prop} {w w' w'' : World}
theorem Ext.refl (S : Nat → Prop) (w : World) : Ext S w w := ⟨rfl, rfl, rfl, Nat.le_refl _, fun _ _ _ => rfl⟩
theorem Ext.trans (h : Ext S w w') (k : Ext S w' w'') : Ext S w w'' :=
  ⟨k.os.trans h.os, k.tape.trans h.tape, k.output.trans h.output, Nat.le_trans h.size k.size, fun i hi hs => (k.block i (Nat.lt_of_lt_of_le hi h.size) hs).trans (h.block i hi hs)⟩
theorem Ext.then (h : Ext S w w') (k : Ext T w' w'') (hT : ∀ b, T b → S b ∨ w.heap.size ≤ b) : Ext S w w'' :=
  ⟨k.os.trans h.os, k.tape.trans h.tape, k.output.trans h.output, Nat.le_trans h.size k.size, fun i hi hs => (k.block i (Nat.lt_of_lt_of_le hi h.size) (fun ht => by
    rcases hT i ht with h1 | h1
    · exact hs h1
    · omega)).trans (h.block i hi hs)⟩
theorem Ext.mono (h : Ext S w w') (hT : ∀ b, S b → T b) : Ext T w w' := ⟨h.os, h.tape, h.output, h.size, fun i hi hs => h.block i hi fun hk => hs (hT i hk)⟩
theorem Ext.of_no (h : Ext No w w') : Ext S w w' := h.mono fun _ h => h.elim
theorem Ext.drawn (S : Nat → Prop) (w : World) (n : Nat) : Ext S w { w with drawn := n } := ⟨rfl, rfl, rfl, Nat.le_refl _, fun _ _ _ => rfl⟩
theorem Ext.push (S : Nat → Prop) (w : World) (t : TypeId) (cs : List Value) : Ext S w (pushBlk w t cs) :=
  ⟨rfl, rfl, rfl, by simp [pushBlk], fun i hi _ => by
    show (w.heap.push _)[i]? = _
    rw [Array.getElem?_push, if_neg (by omega)]⟩
theorem gap_old (w : World) (n d i : Nat) (hi : i < w.heap.size) : (Gap.wgap w n d).heap[i]? = w.heap[i]? := by
  show (w.heap ++ _)[i]? = _
  rw [Array.getElem?_append_left hi]
theorem Ext.gap (S : Nat → Prop) (w : World) (n d : Nat) : Ext S w (Gap.wgap w n d) := ⟨rfl, rfl, rfl, by simp [Gap.wgap], fun i hi _ => gap_old w n d i hi⟩
theorem Ext.set {b : Nat} (hb : S b) (t : TypeId) (cs : List Value) : Ext S w (setBlk w b t cs) :=
  ⟨rfl, rfl, rfl, by simp [setBlk], fun i hi hs => by
    have : b ≠ i := fun e => hs (e ▸ hb)
    simp [setBlk, this]⟩
theorem Ext.blk {b : Nat} {t : TypeId} {cs : List Value} (h : Ext S w w') (hb : Blk w b t cs) (hs : ¬ S b) : Blk w' b t cs := (h.block b hb.lt hs).trans hb
theorem cell_lt {a : Addr} {v : Value} (h : w.cell? a = some v) : a.block < w.heap.size := by
  unfold World.cell? at h
  split at h
  · rename_i he; exact (Array.getElem?_eq_some_iff.1 he).1
  · cases h
theorem Ext.cell {b o : Nat} {v : Value} (h : Ext S w w') (hc : w.cell? ⟨b, o, none⟩ = some v) (hs : ¬ S b) : w'.cell? ⟨b, o, none⟩ = some v := by
  have := h.block b (cell_lt hc) hs
  rw [← hc]
  simp [World.cell?, this]
theorem Ext.cells {b o : Nat} {l : List Value} (h : Ext S w w') (hc : CellsAt w b o l) (hs : ¬ S b) : CellsAt w' b o l := fun i v hi => h.cell (hc i v hi) hs
theorem Blk.cells {b : Nat} {t : TypeId} {cs : List Value} (h : Blk w b t cs) {o : Nat} {l : List Value} (hl : (cs.drop o).take l.length = l) : CellsAt w b o l := fun i v hi => by
  rw [h.cell]
  have hlt := (List.getElem?_eq_some_iff.1 hi).1
  rw [← hl] at hi
  rw [List.getElem?_take_of_lt hlt, List.getElem?_drop] at hi
  exact hi
end

structure Ent where
  foot : List Nat
  holds : World → Prop

def Ent.Local (e : Ent) : Prop := ∀ w w' : World, (∀ b ∈ e.foot, w'.heap[b]? = w.heap[b]?) → e.holds w → e.holds w'

def blk (b : Nat) (t : TypeId) (cs : List Value) : Ent := ⟨[b], fun w => Blk w b t cs⟩
theorem blk_local (b : Nat) (t : TypeId) (cs : List Value) : (blk b t cs).Local := fun _ _ h hb => (h b (by simp [blk])).trans hb

structure St (w0 : World) (S : Nat → Prop) (w : World) (H : List Ent) : Prop where
  ext : Ext S w0 w
  each : ∀ e ∈ H, e.holds w
  loc : ∀ e ∈ H, e.Local
  may : ∀ e ∈ H, ∀ b ∈ e.foot, (S b ∨ w0.heap.size ≤ b) ∧ b < w.heap.size
  apart : H.Pairwise fun e f => ∀ b ∈ e.foot, b ∉ f.foot

section
variable {w0 w w' : World} {S T : Nat → Prop} {H : List Ent}

theorem St.start (w0 : World) (S : Nat → Prop) : St w0 S w0 [] := ⟨Ext.refl _ _, by simp, by simp, by simp, .nil⟩

theorem St.get (h : St w0 S w H) (i : Nat) {e : Ent} (hi : H[i]? = some e) : e.holds w := h.each e (List.mem_of_getElem? hi)
theorem St.blk (h : St w0 S w H) (i : Nat) {b : Nat} {t : TypeId} {cs : List Value} (hi : H[i]? = some (blk b t cs)) : Blk w b t cs := h.get i hi

theorem St.add (h : St w0 S w H) {e : Ent} (hl : e.Local) (hh : e.holds w) (hm : ∀ b ∈ e.foot, (S b ∨ w0.heap.size ≤ b) ∧ b < w.heap.size) (ha : ∀ f ∈ H, ∀ b ∈ f.foot, b ∉ e.foot) : St w0 S w (H ++ [e]) := by
  refine ⟨h.ext, ?_, ?_, ?_, ?_⟩
  · intro f hf
    rcases List.mem_append.1 hf with hf | hf
    · exact h.each f hf
    · obtain rfl : f = e := by simpa using hf
      exact hh
  · intro f hf
    rcases List.mem_append.1 hf with hf | hf
    · exact h.loc f hf
    · obtain rfl : f = e := by simpa using hf
      exact hl
  · intro f hf
    rcases List.mem_append.1 hf with hf | hf
    · exact h.may f hf
    · obtain rfl : f = e := by simpa using hf
      exact hm
  · rw [List.pairwise_append]
    refine ⟨h.apart, by simp, fun f hf g hg => ?_⟩
    obtain rfl : g = e := by simpa using hg
    exact ha f hf

theorem St.same (h : St w0 S w H) (k : Ext T w w') (hT : ∀ b, T b → S b ∨ w0.heap.size ≤ b) (hn : ∀ e ∈ H, ∀ b ∈ e.foot, ¬ T b) : St w0 S w' H :=
  ⟨h.ext.then k hT, fun e he => h.loc e he w w' (fun b hb => k.block b (h.may e he b hb).2 (hn e he b hb)) (h.each e he), h.loc, fun e he b hb => ⟨(h.may e he b hb).1, Nat.lt_of_lt_of_le (h.may e he b hb).2 k.size⟩, h.apart⟩
theorem St.no (h : St w0 S w H) (k : Ext No w w') : St w0 S w' H := h.same k (fun _ h => h.elim) fun _ _ _ _ h => h

theorem pairwise_set {α : Type} {R : α → α → Prop} (hsymm : ∀ a b, R a b → R b a) : ∀ {l : List α} {i : Nat} {e : α}, l.Pairwise R → (∀ j f, l[j]? = some f → j ≠ i → R f e) → (l.set i e).Pairwise R
  | [], _, _, _, _ => by simp
  | x :: l, 0, e, h, hf => by
    rw [List.set_cons_zero]
    refine .cons (fun y hy => ?_) (List.Pairwise.of_cons h)
    obtain ⟨j, hj, rfl⟩ := List.mem_iff_getElem.1 hy
    exact hsymm _ _ (hf (j + 1) _ (by simp [hj]) (by omega))
  | x :: l, i + 1, e, h, hf => by
    rw [List.set_cons_succ]
    obtain ⟨h1, h2⟩ := List.pairwise_cons.1 h
    refine .cons (fun y hy => ?_) (pairwise_set hsymm h2 fun j f hj hne => hf (j + 1) f (by simpa using hj) (by omega))
    rcases List.mem_or_eq_of_mem_set hy with hy | rfl
    · exact h1 y hy
    · exact hf 0 x (by simp) (by omega)

theorem pairwise_at {α : Type} {R : α → α → Prop} (hsymm : ∀ a b, R a b → R b a) {l : List α} (h : l.Pairwise R) {i j : Nat} {a b : α} (hi : l[i]? = some a) (hj : l[j]? = some b) (hne : i ≠ j) : R a b := by
  rw [List.pairwise_iff_getElem] at h
  obtain ⟨hi1, rfl⟩ := List.getElem?_eq_some_iff.1 hi
  obtain ⟨hj1, rfl⟩ := List.getElem?_eq_some_iff.1 hj
  rcases Nat.lt_or_gt_of_ne hne with hlt | hlt
  · exact h i j hi1 hj1 hlt
  · exact hsymm _ _ (h j i hj1 hi1 hlt)

theorem apart_symm : ∀ e f : Ent, (∀ b ∈ e.foot, b ∉ f.foot) → ∀ b ∈ f.foot, b ∉ e.foot := fun _ _ h b hb hb' => h b hb' hb

theorem St.upd (h : St w0 S w H) (i : Nat) {e e' : Ent} (hi : H[i]? = some e) (k : Ext T w w') (hT : ∀ b, T b → b ∈ e.foot) (hl : e'.Local) (hh : e'.holds w') (hf : ∀ b ∈ e'.foot, b ∈ e.foot ∨ (w.heap.size ≤ b ∧ b < w'.heap.size)) : St w0 S w' (H.set i e') := by
  have hme : e ∈ H := List.mem_of_getElem? hi
  have hTS : ∀ b, T b → S b ∨ w0.heap.size ≤ b := fun b hb => (h.may e hme b (hT b hb)).1
  have other : ∀ j f, H[j]? = some f → j ≠ i → ∀ b ∈ f.foot, b ∉ e.foot := fun j f hj hne => pairwise_at apart_symm h.apart hj hi hne
  have hcase : ∀ f ∈ H.set i e', f = e' ∨ ∃ j, H[j]? = some f ∧ j ≠ i := by
    intro f hf
    obtain ⟨j, hj⟩ := List.mem_iff_getElem?.1 hf
    rw [List.getElem?_set] at hj
    split at hj
    · split at hj
      · exact .inl (by simpa using hj.symm)
      · cases hj
    · rename_i hne; exact .inr ⟨j, hj, fun e => hne e.symm⟩
  refine ⟨h.ext.then k hTS, ?_, ?_, ?_, ?_⟩
  · intro f hf
    rcases hcase f hf with rfl | ⟨j, hj, hne⟩
    · exact hh
    · have hm := List.mem_of_getElem? hj
      exact h.loc f hm w w' (fun b hb => k.block b (h.may f hm b hb).2 fun ht => other j f hj hne b hb (hT b ht)) (h.each f hm)
  · intro f hf
    rcases hcase f hf with rfl | ⟨j, hj, hne⟩
    · exact hl
    · exact h.loc f (List.mem_of_getElem? hj)
  · intro f hf' b hb
    rcases hcase f hf' with rfl | ⟨j, hj, hne⟩
    · rcases hf b hb with h1 | ⟨h1, h2⟩
      · exact ⟨(h.may e hme b h1).1, Nat.lt_of_lt_of_le (h.may e hme b h1).2 k.size⟩
      · exact ⟨.inr (Nat.le_trans h.ext.size h1), h2⟩
    · have hm := List.mem_of_getElem? hj
      exact ⟨(h.may f hm b hb).1, Nat.lt_of_lt_of_le (h.may f hm b hb).2 k.size⟩
  · refine pairwise_set apart_symm h.apart fun j f hj hne b hb hb' => ?_
    rcases hf b hb' with h1 | ⟨h1, _⟩
    · exact other j f hj hne b hb h1
    · have := (h.may f (List.mem_of_getElem? hj) b hb).2
      omega

theorem St.made (h : St w0 S w H) {e : Ent} (k : Ext No w w') (hl : e.Local) (hh : e.holds w') (hf : ∀ b ∈ e.foot, w.heap.size ≤ b ∧ b < w'.heap.size) : St w0 S w' (H ++ [e]) := by
  refine (h.no k).add hl hh (fun b hb => ⟨.inr (Nat.le_trans h.ext.size (hf b hb).1), (hf b hb).2⟩) fun f hf' b hb hb' => ?_
  have h1 := (h.may f hf' b hb).2
  have h2 := (hf b hb').1
  omega

theorem St.weaken (h : St w0 S w H) {H' : List Ent} (hs : H'.Sublist H) : St w0 S w H' :=
  ⟨h.ext, fun e he => h.each e (hs.subset he), fun e he => h.loc e (hs.subset he), fun e he => h.may e (hs.subset he), h.apart.sublist hs⟩

theorem St.ld (h : St w0 S w H) (i : Nat) {b o : Nat} {t : TypeId} {cs : List Value} {v : Value} {k : Value → Prop} (hi : H[i]? = some (Ev.blk b t cs)) (hv : cs[o]? = some v) (hk : k v) : LdC w b o k :=
  ⟨v, by rw [(h.blk i hi).cell]; exact hv, hk⟩
theorem St.la (h : St w0 S w H) (i : Nat) {b o n : Nat} {t : TypeId} {cs l : List Value} {k : Value → Prop} (hi : H[i]? = some (Ev.blk b t cs)) (hn : l.length = n) (hl : (cs.drop o).take l.length = l) (hk : k (.agg l.toArray)) : LdA w b o n k :=
  ⟨l, hn, (h.blk i hi).cells hl, hk⟩
theorem St.ldr (h : St w0 S w H) {b o : Nat} {v : Value} {k : Value → Prop} (hc : w0.cell? ⟨b, o, none⟩ = some v) (hs : ¬ S b) (hk : k v) : LdC w b o k := ⟨v, h.ext.cell hc hs, hk⟩
theorem St.lar (h : St w0 S w H) {b o n : Nat} {l : List Value} {k : Value → Prop} (hn : l.length = n) (hc : CellsAt w0 b o l) (hs : ¬ S b) (hk : k (.agg l.toArray)) : LdA w b o n k := ⟨l, hn, h.ext.cells hc hs, hk⟩
theorem St.st (h : St w0 S w H) (i : Nat) {b o : Nat} {t : TypeId} {cs vs : List Value} {k : World → Prop} (hi : H[i]? = some (Ev.blk b t cs)) (hle : o + vs.length ≤ cs.length) (h1 : vs.all isOne = true)
    (hk : ∀ w', St w0 S w' (H.set i (Ev.blk b t (over cs o vs))) → k w') : StC w b o vs k := by
  have hb := h.blk i hi
  refine ⟨t, cs, hb, hle, by simpa using h1, hk _ ?_⟩
  exact h.upd i hi (T := (· = b)) (Ext.set (S := (· = b)) (b := b) rfl t _) (fun c hc => by simp [Ev.blk, hc]) (blk_local _ _ _) (setBlk_blk hb.lt) (fun c hc => .inl hc)
theorem St.gap (h : St w0 S w H) (n d : Nat) : St w0 S (Gap.wgap w n d) H := h.no (Ext.gap _ _ _ _)
theorem St.new (h : St w0 S w H) {t : TypeId} {cs : List Value} {k : Value → World → Prop} (hk : ∀ b w', w0.heap.size ≤ b → St w0 S w' (H ++ [Ev.blk b t cs]) → k (.pointer (some ⟨b, 0, none⟩)) w') : NewC w t cs k := by
  refine ⟨fun n d => ?_⟩
  replace h := h.gap n d
  generalize Gap.wgap w n d = w at h
  refine hk _ _ h.ext.size (h.made (Ext.push _ _ _ _) (blk_local _ _ _) (show (w.heap.push _)[w.heap.size]? = _ by rw [Array.getElem?_push, if_pos rfl]) ?_)
  intro b hb
  obtain rfl : b = w.heap.size := by simpa [Ev.blk] using hb
  simp [pushBlk]
theorem St.drew (h : St w0 S w H) : St w0 S { w with drawn := w.drawn + 1 } H := h.no (Ext.drawn _ _ _)

theorem St.ldF (h : St w0 S w H) (i : Nat) {b o : Nat} {t : TypeId} {cs : List Value} {v : Value} {k : Value → Prop} (hi : H[i]? = some (Ev.blk b t cs)) (hv : cs[o]? = some v) (hT : ¬ T b) (hk : k v) : LdF (Ext T w) b o k :=
  ⟨v, fun w' hw' => by rw [(hw'.blk (h.blk i hi) hT).cell]; exact hv, hk⟩
theorem St.laF (h : St w0 S w H) (i : Nat) {b o n : Nat} {t : TypeId} {cs l : List Value} {k : Value → Prop} (hi : H[i]? = some (Ev.blk b t cs)) (hn : l.length = n) (hl : (cs.drop o).take l.length = l) (hT : ¬ T b) (hk : k (.agg l.toArray)) : LdG (Ext T w) b o n k :=
  ⟨l, hn, fun w' hw' => (hw'.blk (h.blk i hi) hT).cells hl, hk⟩
theorem St.ldrF (h : St w0 S w H) {b o : Nat} {v : Value} {k : Value → Prop} (hc : w0.cell? ⟨b, o, none⟩ = some v) (hs : ¬ S b) (hT : ¬ T b) (hk : k v) : LdF (Ext T w) b o k := ⟨v, fun w' hw' => hw'.cell (h.ext.cell hc hs) hT, hk⟩
theorem St.larF (h : St w0 S w H) {b o n : Nat} {l : List Value} {k : Value → Prop} (hn : l.length = n) (hc : CellsAt w0 b o l) (hs : ¬ S b) (hT : ¬ T b) (hk : k (.agg l.toArray)) : LdG (Ext T w) b o n k := ⟨l, hn, fun w' hw' => hw'.cells (h.ext.cells hc hs) hT, hk⟩
end

theorem drawS {P : Program} {τ : Tab} {N : Nat} {σ : Slots} {w : World} (hτ : TabOk P τ) (hm : P.follows .mixedOrders = true) {ops : Array Oper} {Q : Slots → World → Prop} (late : List Nat) (T : Nat → Prop) (order : List Nat)
    (hok : (Region.noSelect ops && Nat.beq order.length ops.size && orderOk ops late order (Array.replicate ops.size false)) = true)
    (h : ∀ w1, w1 = { w with drawn := w.drawn + 1 } → evDrawR P τ N ops late (Ext T w1) order Q σ w1) : DrawC P τ N ops Q σ w :=
  drawR hτ hm late (fun w1 w' => Ext T w1 w') order hok (Ext.refl _ _) (by have := h _ rfl; rwa [evDrawR_eq] at this)
theorem drawL {P : Program} {τ : Tab} {N : Nat} {σ : Slots} {w : World} (hτ : TabOk P τ) (hm : P.follows .mixedOrders = true) {ops : Array Oper} {Q : Slots → World → Prop} (late : List Nat) (T : Nat → Prop) (order : List Nat) (_ : order.length = ops.size)
    (hok : (Region.noSelect ops && Nat.beq order.length ops.size && orderOk ops late order (Array.replicate ops.size false)) = true)
    (h : ∀ w1, w1 = { w with drawn := w.drawn + 1 } → evDrawR P τ N ops late (Ext T w1) order Q σ w1) : DrawC P τ N ops Q σ w := drawS hτ hm late T order hok h
end Go.Proofs.YtgcbcagaibecbaaGreatDoor.Ev

namespace Go.Proofs.YtgcbcagaibecbaaGreatDoor
open Go Ev
variable [Go.Proofs.YtgcbcagaibecbaaGreatDoor.Gap.Leaps]
def tab : Tab := [
  (1, ⟨1, .other, [.nilFunc]⟩),
  (2, ⟨1, .int, [.int .i64 0]⟩),
  (3, ⟨1, .int, [.int .i64 0]⟩),
  (4, ⟨1, .bool, [.bool false]⟩),
  (5, ⟨1, .other, [.int .u8 0]⟩),
  (9, ⟨1, .str, [.string ByteArray.empty]⟩),
  (12, ⟨1, .other, [.int .u64 0]⟩),
  (13, ⟨2, .struct [(0, 1, false), (1, 1, false)], [.string ByteArray.empty, .int .u64 0]⟩),
  (20, ⟨1, .iface, [.nilIface]⟩),
  (21, ⟨1, .other, [.int .i32 0]⟩),
  (22, ⟨1, .slice 9 1 false, [.slice none 0 0]⟩),
  (23, ⟨1, .other, [.nilFunc]⟩),
  (24, ⟨1, .slice 32 1 false, [.slice none 0 0]⟩),
  (25, ⟨1, .iface, [.nilIface]⟩),
  (26, ⟨1, .iface, [.nilIface]⟩),
  (28, ⟨1, .other, [.nilFunc]⟩),
  (29, ⟨2, .struct [(0, 1, false), (1, 1, false)], [.int .i64 0, .int .i64 0]⟩),
  (30, ⟨2, .struct [(0, 1, false), (1, 1, false)], [.int .i64 0, .int .i64 0]⟩),
  (31, ⟨1, .other, [.nilFunc]⟩),
  (32, ⟨1, .slice 41 5 true, [.slice none 0 0]⟩),
  (34, ⟨1, .other, [.nilFunc]⟩),
  (35, ⟨1, .other, [.nilFunc]⟩),
  (37, ⟨1, .other, [.nilFunc]⟩),
  (38, ⟨1, .other, [.nilFunc]⟩),
  (39, ⟨1, .other, [.nilFunc]⟩),
  (40, ⟨5, .struct [(0, 1, false), (1, 1, false), (2, 1, false), (3, 1, false), (4, 1, false)], [.bool false, .bool false, .int .i64 0, .int .i64 0, .int .i64 0]⟩),
  (41, ⟨5, .struct [(0, 1, false), (1, 1, false), (2, 1, false), (3, 1, false), (4, 1, false)], [.bool false, .bool false, .int .i64 0, .int .i64 0, .int .i64 0]⟩),
  (42, ⟨1, .other, [.nilFunc]⟩),
  (43, ⟨1, .slice 26 1 false, [.slice none 0 0]⟩),
  (45, ⟨1, .other, [.nilFunc]⟩),
  (46, ⟨1, .other, [.nilFunc]⟩),
  (47, ⟨1, .ptr, [.pointer none]⟩),
  (48, ⟨1, .other, [.nilFunc]⟩),
  (49, ⟨1, .ptr, [.pointer none]⟩),
  (50, ⟨2, .struct [(0, 1, false), (1, 1, false)], [.int .i64 0, .nilIface]⟩),
  (51, ⟨2, .struct [(0, 1, false), (1, 1, false)], [.int .i64 0, .nilIface]⟩),
  (52, ⟨1, .other, [.nilFunc]⟩),
  (53, ⟨1, .other, [.nilFunc]⟩),
  (54, ⟨1, .other, [.nilFunc]⟩),
  (56, ⟨1, .other, [.nilFunc]⟩),
  (57, ⟨1, .other, [.nilFunc]⟩),
  (59, ⟨1, .other, [.nilFunc]⟩),
  (60, ⟨1, .other, [.nilFunc]⟩),
  (61, ⟨1, .other, [.nilFunc]⟩),
  (62, ⟨1, .other, [.nilFunc]⟩),
  (63, ⟨1, .other, [.chan none]⟩),
  (64, ⟨1, .other, [.chan none]⟩),
  (69, ⟨1, .other, [.int .u64 0]⟩),
  (72, ⟨1, .other, [.int .u32 0]⟩),
  (75, ⟨1, .other, [.nilFunc]⟩),
  (76, ⟨3, .struct [(0, 1, false), (1, 1, false), (2, 1, false)], [.int .i64 0, .slice none 0 0, .nilIface]⟩),
  (77, ⟨3, .struct [(0, 1, false), (1, 1, false), (2, 1, false)], [.int .i64 0, .slice none 0 0, .nilIface]⟩),
  (81, ⟨3, .struct [(0, 1, false), (1, 1, false), (2, 1, false)], [.pointer none, .pointer none, .int .u64 0]⟩),
  (84, ⟨1, .iface, [.nilIface]⟩),
  (86, ⟨1, .other, [.int .u8 0]⟩),
  (90, ⟨1, .other, [.nilFunc]⟩),
  (91, ⟨1, .other, [.nilFunc]⟩),
  (92, ⟨1, .other, [.nilFunc]⟩),
  (93, ⟨1, .other, [.nilFunc]⟩),
  (94, ⟨3, .arr 3 9 1 false, [.string ByteArray.empty, .string ByteArray.empty, .string ByteArray.empty]⟩),
  (96, ⟨1, .other, [.nilFunc]⟩),
  (98, ⟨1, .other, [.nilFunc]⟩),
  (99, ⟨1, .other, [.nilFunc]⟩),
  (100, ⟨1, .other, [.nilFunc]⟩),
  (101, ⟨1, .other, [.nilFunc]⟩),
  (102, ⟨1, .ptr, [.pointer none]⟩),
  (103, ⟨1, .other, [.nilFunc]⟩),
  (104, ⟨1, .other, [.nilFunc]⟩),
  (105, ⟨1, .other, [.int .u64 0]⟩),
  (106, ⟨1, .other, [.nilFunc]⟩),
  (107, ⟨1, .other, [.nilFunc]⟩),
  (108, ⟨1, .other, [.nilFunc]⟩),
  (109, ⟨1, .other, [.nilFunc]⟩),
  (110, ⟨1, .ptr, [.pointer none]⟩),
  (111, ⟨1, .other, [.nilFunc]⟩),
  (118, ⟨1, .iface, [.nilIface]⟩),
  (120, ⟨1, .other, [.nilFunc]⟩),
  (121, ⟨1, .iface, [.nilIface]⟩),
  (122, ⟨1, .other, [.nilFunc]⟩),
  (123, ⟨1, .iface, [.nilIface]⟩),
  (124, ⟨1, .other, [.nilFunc]⟩),
  (125, ⟨1, .other, [.nilFunc]⟩),
  (126, ⟨1, .other, [.nilFunc]⟩),
  (127, ⟨1, .other, [.nilFunc]⟩),
  (128, ⟨1, .other, [.nilFunc]⟩),
  (130, ⟨1, .other, [.nilFunc]⟩),
  (131, ⟨1, .other, [.nilFunc]⟩),
  (132, ⟨1, .other, [.nilFunc]⟩),
  (133, ⟨1, .other, [.nilFunc]⟩),
  (134, ⟨1, .int, [.int .i64 0]⟩),
  (135, ⟨1, .other, [.nilFunc]⟩),
  (136, ⟨1, .other, [.nilFunc]⟩),
  (137, ⟨1, .other, [.nilFunc]⟩),
  (138, ⟨1, .other, [.nilFunc]⟩),
  (139, ⟨1, .other, [.nilFunc]⟩),
  (140, ⟨1, .ptr, [.pointer none]⟩),
  (141, ⟨1, .other, [.nilFunc]⟩),
  (142, ⟨1, .ptr, [.pointer none]⟩),
  (143, ⟨1, .other, [.nilFunc]⟩),
  (144, ⟨1, .iface, [.nilIface]⟩),
  (146, ⟨1, .other, [.nilFunc]⟩),
  (147, ⟨1, .other, [.nilFunc]⟩),
  (149, ⟨1, .other, [.nilFunc]⟩),
  (150, ⟨1, .other, [.nilFunc]⟩),
  (151, ⟨1, .other, [.nilFunc]⟩),
  (152, ⟨1, .ptr, [.pointer none]⟩),
  (153, ⟨1, .slice 5 1 false, [.slice none 0 0]⟩),
  (154, ⟨2, .struct [(0, 1, false), (1, 1, false)], [.pointer none, .slice none 0 0]⟩),
  (155, ⟨2, .struct [(0, 1, false), (1, 1, false)], [.pointer none, .slice none 0 0]⟩),
  (156, ⟨1, .other, [.nilFunc]⟩),
  (157, ⟨1, .other, [.nilFunc]⟩),
  (158, ⟨1, .other, [.nilFunc]⟩),
  (159, ⟨1, .other, [.nilFunc]⟩),
  (160, ⟨1, .int, [.int .i64 0]⟩),
  (162, ⟨1, .other, [.nilFunc]⟩),
  (163, ⟨1, .ptr, [.pointer none]⟩),
  (164, ⟨1, .other, [.nilFunc]⟩),
  (165, ⟨1, .other, [.nilFunc]⟩),
  (166, ⟨1, .other, [.nilFunc]⟩),
  (167, ⟨1, .ptr, [.pointer none]⟩),
  (168, ⟨256, .arr 256 5 1 false, []⟩),
  (169, ⟨2, .struct [(0, 1, false), (1, 1, false)], [.int .u8 0, .int .u8 0]⟩),
  (170, ⟨2, .struct [(0, 1, false), (1, 1, false)], [.int .u8 0, .int .u8 0]⟩),
  (171, ⟨32, .arr 16 170 2 true, []⟩),
  (173, ⟨1, .other, [.nilFunc]⟩),
  (175, ⟨1, .other, [.nilFunc]⟩),
  (176, ⟨1, .other, [.nilFunc]⟩),
  (177, ⟨3, .struct [(0, 1, false), (1, 1, false), (2, 1, false)], [.string ByteArray.empty, .string ByteArray.empty, .nilIface]⟩),
  (178, ⟨3, .struct [(0, 1, false), (1, 1, false), (2, 1, false)], [.string ByteArray.empty, .string ByteArray.empty, .nilIface]⟩),
  (179, ⟨1, .other, [.nilFunc]⟩),
  (180, ⟨24, .arr 24 5 1 false, []⟩),
  (181, ⟨1, .other, [.nilFunc]⟩),
  (182, ⟨1, .other, [.nilFunc]⟩),
  (184, ⟨1, .other, [.nilFunc]⟩),
  (185, ⟨1, .other, [.nilFunc]⟩),
  (186, ⟨1, .other, [.nilFunc]⟩),
  (187, ⟨1, .other, [.nilFunc]⟩),
  (188, ⟨1, .other, [.nilFunc]⟩),
  (189, ⟨1, .ptr, [.pointer none]⟩),
  (190, ⟨1, .struct [(0, 1, false)], [.string ByteArray.empty]⟩),
  (191, ⟨1, .struct [(0, 1, false)], [.string ByteArray.empty]⟩),
  (192, ⟨1, .other, [.nilFunc]⟩),
  (193, ⟨20, .arr 20 69 1 false, []⟩),
  (194, ⟨65, .arr 65 5 1 false, []⟩),
  (195, ⟨1, .other, [.nilFunc]⟩),
  (196, ⟨1, .other, [.nilFunc]⟩),
  (197, ⟨1, .other, [.nilFunc]⟩),
  (198, ⟨32, .arr 32 5 1 false, []⟩),
  (199, ⟨64, .arr 64 5 1 false, []⟩),
  (205, ⟨1, .other, [.nilFunc]⟩),
  (208, ⟨1, .other, [.nilFunc]⟩),
  (213, ⟨1, .other, [.nilFunc]⟩),
  (219, ⟨1, .other, [.int .u16 0]⟩),
  (226, ⟨1, .ptr, [.pointer none]⟩)]
theorem tabOk1 : TIok Tryz.prog 1 ⟨1, .other, [.nilFunc]⟩ := ⟨by kernel_rfl, by kernel_rfl, .inr (by kernel_rfl)⟩
theorem tabOk2 : TIok Tryz.prog 2 ⟨1, .int, [.int .i64 0]⟩ := ⟨by kernel_rfl, by kernel_rfl, .inr (by kernel_rfl)⟩
theorem tabOk3 : TIok Tryz.prog 3 ⟨1, .int, [.int .i64 0]⟩ := ⟨by kernel_rfl, by kernel_rfl, .inr (by kernel_rfl)⟩
theorem tabOk4 : TIok Tryz.prog 4 ⟨1, .bool, [.bool false]⟩ := ⟨by kernel_rfl, by kernel_rfl, .inr (by kernel_rfl)⟩
theorem tabOk5 : TIok Tryz.prog 5 ⟨1, .other, [.int .u8 0]⟩ := ⟨by kernel_rfl, by kernel_rfl, .inr (by kernel_rfl)⟩
theorem tabOk9 : TIok Tryz.prog 9 ⟨1, .str, [.string ByteArray.empty]⟩ := ⟨by kernel_rfl, by kernel_rfl, .inr (by kernel_rfl)⟩
theorem tabOk12 : TIok Tryz.prog 12 ⟨1, .other, [.int .u64 0]⟩ := ⟨by kernel_rfl, by kernel_rfl, .inr (by kernel_rfl)⟩
theorem tabOk13 : TIok Tryz.prog 13 ⟨2, .struct [(0, 1, false), (1, 1, false)], [.string ByteArray.empty, .int .u64 0]⟩ := ⟨by kernel_rfl, by kernel_rfl, .inr (by kernel_rfl)⟩
theorem tabOk20 : TIok Tryz.prog 20 ⟨1, .iface, [.nilIface]⟩ := ⟨by kernel_rfl, by kernel_rfl, .inr (by kernel_rfl)⟩
theorem tabOk21 : TIok Tryz.prog 21 ⟨1, .other, [.int .i32 0]⟩ := ⟨by kernel_rfl, by kernel_rfl, .inr (by kernel_rfl)⟩
theorem tabOk22 : TIok Tryz.prog 22 ⟨1, .slice 9 1 false, [.slice none 0 0]⟩ := ⟨by kernel_rfl, by kernel_rfl, .inr (by kernel_rfl)⟩
theorem tabOk23 : TIok Tryz.prog 23 ⟨1, .other, [.nilFunc]⟩ := ⟨by kernel_rfl, by kernel_rfl, .inr (by kernel_rfl)⟩
theorem tabOk24 : TIok Tryz.prog 24 ⟨1, .slice 32 1 false, [.slice none 0 0]⟩ := ⟨by kernel_rfl, by kernel_rfl, .inr (by kernel_rfl)⟩
theorem tabOk25 : TIok Tryz.prog 25 ⟨1, .iface, [.nilIface]⟩ := ⟨by kernel_rfl, by kernel_rfl, .inr (by kernel_rfl)⟩
theorem tabOk26 : TIok Tryz.prog 26 ⟨1, .iface, [.nilIface]⟩ := ⟨by kernel_rfl, by kernel_rfl, .inr (by kernel_rfl)⟩
theorem tabOk28 : TIok Tryz.prog 28 ⟨1, .other, [.nilFunc]⟩ := ⟨by kernel_rfl, by kernel_rfl, .inr (by kernel_rfl)⟩
theorem tabOk29 : TIok Tryz.prog 29 ⟨2, .struct [(0, 1, false), (1, 1, false)], [.int .i64 0, .int .i64 0]⟩ := ⟨by kernel_rfl, by kernel_rfl, .inr (by kernel_rfl)⟩
theorem tabOk30 : TIok Tryz.prog 30 ⟨2, .struct [(0, 1, false), (1, 1, false)], [.int .i64 0, .int .i64 0]⟩ := ⟨by kernel_rfl, by kernel_rfl, .inr (by kernel_rfl)⟩
theorem tabOk31 : TIok Tryz.prog 31 ⟨1, .other, [.nilFunc]⟩ := ⟨by kernel_rfl, by kernel_rfl, .inr (by kernel_rfl)⟩
theorem tabOk32 : TIok Tryz.prog 32 ⟨1, .slice 41 5 true, [.slice none 0 0]⟩ := ⟨by kernel_rfl, by kernel_rfl, .inr (by kernel_rfl)⟩
theorem tabOk34 : TIok Tryz.prog 34 ⟨1, .other, [.nilFunc]⟩ := ⟨by kernel_rfl, by kernel_rfl, .inr (by kernel_rfl)⟩
theorem tabOk35 : TIok Tryz.prog 35 ⟨1, .other, [.nilFunc]⟩ := ⟨by kernel_rfl, by kernel_rfl, .inr (by kernel_rfl)⟩
theorem tabOk37 : TIok Tryz.prog 37 ⟨1, .other, [.nilFunc]⟩ := ⟨by kernel_rfl, by kernel_rfl, .inr (by kernel_rfl)⟩
theorem tabOk38 : TIok Tryz.prog 38 ⟨1, .other, [.nilFunc]⟩ := ⟨by kernel_rfl, by kernel_rfl, .inr (by kernel_rfl)⟩
theorem tabOk39 : TIok Tryz.prog 39 ⟨1, .other, [.nilFunc]⟩ := ⟨by kernel_rfl, by kernel_rfl, .inr (by kernel_rfl)⟩
theorem tabOk40 : TIok Tryz.prog 40 ⟨5, .struct [(0, 1, false), (1, 1, false), (2, 1, false), (3, 1, false), (4, 1, false)], [.bool false, .bool false, .int .i64 0, .int .i64 0, .int .i64 0]⟩ := ⟨by kernel_rfl, by kernel_rfl, .inr (by kernel_rfl)⟩
theorem tabOk41 : TIok Tryz.prog 41 ⟨5, .struct [(0, 1, false), (1, 1, false), (2, 1, false), (3, 1, false), (4, 1, false)], [.bool false, .bool false, .int .i64 0, .int .i64 0, .int .i64 0]⟩ := ⟨by kernel_rfl, by kernel_rfl, .inr (by kernel_rfl)⟩
theorem tabOk42 : TIok Tryz.prog 42 ⟨1, .other, [.nilFunc]⟩ := ⟨by kernel_rfl, by kernel_rfl, .inr (by kernel_rfl)⟩
theorem tabOk43 : TIok Tryz.prog 43 ⟨1, .slice 26 1 false, [.slice none 0 0]⟩ := ⟨by kernel_rfl, by kernel_rfl, .inr (by kernel_rfl)⟩
theorem tabOk45 : TIok Tryz.prog 45 ⟨1, .other, [.nilFunc]⟩ := ⟨by kernel_rfl, by kernel_rfl, .inr (by kernel_rfl)⟩
theorem tabOk46 : TIok Tryz.prog 46 ⟨1, .other, [.nilFunc]⟩ := ⟨by kernel_rfl, by kernel_rfl, .inr (by kernel_rfl)⟩
theorem tabOk47 : TIok Tryz.prog 47 ⟨1, .ptr, [.pointer none]⟩ := ⟨by kernel_rfl, by kernel_rfl, .inr (by kernel_rfl)⟩
theorem tabOk48 : TIok Tryz.prog 48 ⟨1, .other, [.nilFunc]⟩ := ⟨by kernel_rfl, by kernel_rfl, .inr (by kernel_rfl)⟩
theorem tabOk49 : TIok Tryz.prog 49 ⟨1, .ptr, [.pointer none]⟩ := ⟨by kernel_rfl, by kernel_rfl, .inr (by kernel_rfl)⟩
theorem tabOk50 : TIok Tryz.prog 50 ⟨2, .struct [(0, 1, false), (1, 1, false)], [.int .i64 0, .nilIface]⟩ := ⟨by kernel_rfl, by kernel_rfl, .inr (by kernel_rfl)⟩
theorem tabOk51 : TIok Tryz.prog 51 ⟨2, .struct [(0, 1, false), (1, 1, false)], [.int .i64 0, .nilIface]⟩ := ⟨by kernel_rfl, by kernel_rfl, .inr (by kernel_rfl)⟩
theorem tabOk52 : TIok Tryz.prog 52 ⟨1, .other, [.nilFunc]⟩ := ⟨by kernel_rfl, by kernel_rfl, .inr (by kernel_rfl)⟩
theorem tabOk53 : TIok Tryz.prog 53 ⟨1, .other, [.nilFunc]⟩ := ⟨by kernel_rfl, by kernel_rfl, .inr (by kernel_rfl)⟩
theorem tabOk54 : TIok Tryz.prog 54 ⟨1, .other, [.nilFunc]⟩ := ⟨by kernel_rfl, by kernel_rfl, .inr (by kernel_rfl)⟩
theorem tabOk56 : TIok Tryz.prog 56 ⟨1, .other, [.nilFunc]⟩ := ⟨by kernel_rfl, by kernel_rfl, .inr (by kernel_rfl)⟩
theorem tabOk57 : TIok Tryz.prog 57 ⟨1, .other, [.nilFunc]⟩ := ⟨by kernel_rfl, by kernel_rfl, .inr (by kernel_rfl)⟩
theorem tabOk59 : TIok Tryz.prog 59 ⟨1, .other, [.nilFunc]⟩ := ⟨by kernel_rfl, by kernel_rfl, .inr (by kernel_rfl)⟩
theorem tabOk60 : TIok Tryz.prog 60 ⟨1, .other, [.nilFunc]⟩ := ⟨by kernel_rfl, by kernel_rfl, .inr (by kernel_rfl)⟩
theorem tabOk61 : TIok Tryz.prog 61 ⟨1, .other, [.nilFunc]⟩ := ⟨by kernel_rfl, by kernel_rfl, .inr (by kernel_rfl)⟩
theorem tabOk62 : TIok Tryz.prog 62 ⟨1, .other, [.nilFunc]⟩ := ⟨by kernel_rfl, by kernel_rfl, .inr (by kernel_rfl)⟩
theorem tabOk63 : TIok Tryz.prog 63 ⟨1, .other, [.chan none]⟩ := ⟨by kernel_rfl, by kernel_rfl, .inr (by kernel_rfl)⟩
theorem tabOk64 : TIok Tryz.prog 64 ⟨1, .other, [.chan none]⟩ := ⟨by kernel_rfl, by kernel_rfl, .inr (by kernel_rfl)⟩
theorem tabOk69 : TIok Tryz.prog 69 ⟨1, .other, [.int .u64 0]⟩ := ⟨by kernel_rfl, by kernel_rfl, .inr (by kernel_rfl)⟩
theorem tabOk72 : TIok Tryz.prog 72 ⟨1, .other, [.int .u32 0]⟩ := ⟨by kernel_rfl, by kernel_rfl, .inr (by kernel_rfl)⟩
theorem tabOk75 : TIok Tryz.prog 75 ⟨1, .other, [.nilFunc]⟩ := ⟨by kernel_rfl, by kernel_rfl, .inr (by kernel_rfl)⟩
theorem tabOk76 : TIok Tryz.prog 76 ⟨3, .struct [(0, 1, false), (1, 1, false), (2, 1, false)], [.int .i64 0, .slice none 0 0, .nilIface]⟩ := ⟨by kernel_rfl, by kernel_rfl, .inr (by kernel_rfl)⟩
theorem tabOk77 : TIok Tryz.prog 77 ⟨3, .struct [(0, 1, false), (1, 1, false), (2, 1, false)], [.int .i64 0, .slice none 0 0, .nilIface]⟩ := ⟨by kernel_rfl, by kernel_rfl, .inr (by kernel_rfl)⟩
theorem tabOk81 : TIok Tryz.prog 81 ⟨3, .struct [(0, 1, false), (1, 1, false), (2, 1, false)], [.pointer none, .pointer none, .int .u64 0]⟩ := ⟨by kernel_rfl, by kernel_rfl, .inr (by kernel_rfl)⟩
theorem tabOk84 : TIok Tryz.prog 84 ⟨1, .iface, [.nilIface]⟩ := ⟨by kernel_rfl, by kernel_rfl, .inr (by kernel_rfl)⟩
theorem tabOk86 : TIok Tryz.prog 86 ⟨1, .other, [.int .u8 0]⟩ := ⟨by kernel_rfl, by kernel_rfl, .inr (by kernel_rfl)⟩
theorem tabOk90 : TIok Tryz.prog 90 ⟨1, .other, [.nilFunc]⟩ := ⟨by kernel_rfl, by kernel_rfl, .inr (by kernel_rfl)⟩
theorem tabOk91 : TIok Tryz.prog 91 ⟨1, .other, [.nilFunc]⟩ := ⟨by kernel_rfl, by kernel_rfl, .inr (by kernel_rfl)⟩
theorem tabOk92 : TIok Tryz.prog 92 ⟨1, .other, [.nilFunc]⟩ := ⟨by kernel_rfl, by kernel_rfl, .inr (by kernel_rfl)⟩
theorem tabOk93 : TIok Tryz.prog 93 ⟨1, .other, [.nilFunc]⟩ := ⟨by kernel_rfl, by kernel_rfl, .inr (by kernel_rfl)⟩
theorem tabOk94 : TIok Tryz.prog 94 ⟨3, .arr 3 9 1 false, [.string ByteArray.empty, .string ByteArray.empty, .string ByteArray.empty]⟩ := ⟨by kernel_rfl, by kernel_rfl, .inr (by kernel_rfl)⟩
theorem tabOk96 : TIok Tryz.prog 96 ⟨1, .other, [.nilFunc]⟩ := ⟨by kernel_rfl, by kernel_rfl, .inr (by kernel_rfl)⟩
theorem tabOk98 : TIok Tryz.prog 98 ⟨1, .other, [.nilFunc]⟩ := ⟨by kernel_rfl, by kernel_rfl, .inr (by kernel_rfl)⟩
theorem tabOk99 : TIok Tryz.prog 99 ⟨1, .other, [.nilFunc]⟩ := ⟨by kernel_rfl, by kernel_rfl, .inr (by kernel_rfl)⟩
theorem tabOk100 : TIok Tryz.prog 100 ⟨1, .other, [.nilFunc]⟩ := ⟨by kernel_rfl, by kernel_rfl, .inr (by kernel_rfl)⟩
theorem tabOk101 : TIok Tryz.prog 101 ⟨1, .other, [.nilFunc]⟩ := ⟨by kernel_rfl, by kernel_rfl, .inr (by kernel_rfl)⟩
theorem tabOk102 : TIok Tryz.prog 102 ⟨1, .ptr, [.pointer none]⟩ := ⟨by kernel_rfl, by kernel_rfl, .inr (by kernel_rfl)⟩
theorem tabOk103 : TIok Tryz.prog 103 ⟨1, .other, [.nilFunc]⟩ := ⟨by kernel_rfl, by kernel_rfl, .inr (by kernel_rfl)⟩
theorem tabOk104 : TIok Tryz.prog 104 ⟨1, .other, [.nilFunc]⟩ := ⟨by kernel_rfl, by kernel_rfl, .inr (by kernel_rfl)⟩
theorem tabOk105 : TIok Tryz.prog 105 ⟨1, .other, [.int .u64 0]⟩ := ⟨by kernel_rfl, by kernel_rfl, .inr (by kernel_rfl)⟩
theorem tabOk106 : TIok Tryz.prog 106 ⟨1, .other, [.nilFunc]⟩ := ⟨by kernel_rfl, by kernel_rfl, .inr (by kernel_rfl)⟩
theorem tabOk107 : TIok Tryz.prog 107 ⟨1, .other, [.nilFunc]⟩ := ⟨by kernel_rfl, by kernel_rfl, .inr (by kernel_rfl)⟩
theorem tabOk108 : TIok Tryz.prog 108 ⟨1, .other, [.nilFunc]⟩ := ⟨by kernel_rfl, by kernel_rfl, .inr (by kernel_rfl)⟩
theorem tabOk109 : TIok Tryz.prog 109 ⟨1, .other, [.nilFunc]⟩ := ⟨by kernel_rfl, by kernel_rfl, .inr (by kernel_rfl)⟩
theorem tabOk110 : TIok Tryz.prog 110 ⟨1, .ptr, [.pointer none]⟩ := ⟨by kernel_rfl, by kernel_rfl, .inr (by kernel_rfl)⟩
theorem tabOk111 : TIok Tryz.prog 111 ⟨1, .other, [.nilFunc]⟩ := ⟨by kernel_rfl, by kernel_rfl, .inr (by kernel_rfl)⟩
theorem tabOk118 : TIok Tryz.prog 118 ⟨1, .iface, [.nilIface]⟩ := ⟨by kernel_rfl, by kernel_rfl, .inr (by kernel_rfl)⟩
theorem tabOk120 : TIok Tryz.prog 120 ⟨1, .other, [.nilFunc]⟩ := ⟨by kernel_rfl, by kernel_rfl, .inr (by kernel_rfl)⟩
theorem tabOk121 : TIok Tryz.prog 121 ⟨1, .iface, [.nilIface]⟩ := ⟨by kernel_rfl, by kernel_rfl, .inr (by kernel_rfl)⟩
theorem tabOk122 : TIok Tryz.prog 122 ⟨1, .other, [.nilFunc]⟩ := ⟨by kernel_rfl, by kernel_rfl, .inr (by kernel_rfl)⟩
theorem tabOk123 : TIok Tryz.prog 123 ⟨1, .iface, [.nilIface]⟩ := ⟨by kernel_rfl, by kernel_rfl, .inr (by kernel_rfl)⟩
theorem tabOk124 : TIok Tryz.prog 124 ⟨1, .other, [.nilFunc]⟩ := ⟨by kernel_rfl, by kernel_rfl, .inr (by kernel_rfl)⟩
theorem tabOk125 : TIok Tryz.prog 125 ⟨1, .other, [.nilFunc]⟩ := ⟨by kernel_rfl, by kernel_rfl, .inr (by kernel_rfl)⟩
theorem tabOk126 : TIok Tryz.prog 126 ⟨1, .other, [.nilFunc]⟩ := ⟨by kernel_rfl, by kernel_rfl, .inr (by kernel_rfl)⟩
theorem tabOk127 : TIok Tryz.prog 127 ⟨1, .other, [.nilFunc]⟩ := ⟨by kernel_rfl, by kernel_rfl, .inr (by kernel_rfl)⟩
theorem tabOk128 : TIok Tryz.prog 128 ⟨1, .other, [.nilFunc]⟩ := ⟨by kernel_rfl, by kernel_rfl, .inr (by kernel_rfl)⟩
theorem tabOk130 : TIok Tryz.prog 130 ⟨1, .other, [.nilFunc]⟩ := ⟨by kernel_rfl, by kernel_rfl, .inr (by kernel_rfl)⟩
theorem tabOk131 : TIok Tryz.prog 131 ⟨1, .other, [.nilFunc]⟩ := ⟨by kernel_rfl, by kernel_rfl, .inr (by kernel_rfl)⟩
theorem tabOk132 : TIok Tryz.prog 132 ⟨1, .other, [.nilFunc]⟩ := ⟨by kernel_rfl, by kernel_rfl, .inr (by kernel_rfl)⟩
theorem tabOk133 : TIok Tryz.prog 133 ⟨1, .other, [.nilFunc]⟩ := ⟨by kernel_rfl, by kernel_rfl, .inr (by kernel_rfl)⟩
theorem tabOk134 : TIok Tryz.prog 134 ⟨1, .int, [.int .i64 0]⟩ := ⟨by kernel_rfl, by kernel_rfl, .inr (by kernel_rfl)⟩
theorem tabOk135 : TIok Tryz.prog 135 ⟨1, .other, [.nilFunc]⟩ := ⟨by kernel_rfl, by kernel_rfl, .inr (by kernel_rfl)⟩
theorem tabOk136 : TIok Tryz.prog 136 ⟨1, .other, [.nilFunc]⟩ := ⟨by kernel_rfl, by kernel_rfl, .inr (by kernel_rfl)⟩
theorem tabOk137 : TIok Tryz.prog 137 ⟨1, .other, [.nilFunc]⟩ := ⟨by kernel_rfl, by kernel_rfl, .inr (by kernel_rfl)⟩
theorem tabOk138 : TIok Tryz.prog 138 ⟨1, .other, [.nilFunc]⟩ := ⟨by kernel_rfl, by kernel_rfl, .inr (by kernel_rfl)⟩
theorem tabOk139 : TIok Tryz.prog 139 ⟨1, .other, [.nilFunc]⟩ := ⟨by kernel_rfl, by kernel_rfl, .inr (by kernel_rfl)⟩
theorem tabOk140 : TIok Tryz.prog 140 ⟨1, .ptr, [.pointer none]⟩ := ⟨by kernel_rfl, by kernel_rfl, .inr (by kernel_rfl)⟩
theorem tabOk141 : TIok Tryz.prog 141 ⟨1, .other, [.nilFunc]⟩ := ⟨by kernel_rfl, by kernel_rfl, .inr (by kernel_rfl)⟩
theorem tabOk142 : TIok Tryz.prog 142 ⟨1, .ptr, [.pointer none]⟩ := ⟨by kernel_rfl, by kernel_rfl, .inr (by kernel_rfl)⟩
theorem tabOk143 : TIok Tryz.prog 143 ⟨1, .other, [.nilFunc]⟩ := ⟨by kernel_rfl, by kernel_rfl, .inr (by kernel_rfl)⟩
theorem tabOk144 : TIok Tryz.prog 144 ⟨1, .iface, [.nilIface]⟩ := ⟨by kernel_rfl, by kernel_rfl, .inr (by kernel_rfl)⟩
theorem tabOk146 : TIok Tryz.prog 146 ⟨1, .other, [.nilFunc]⟩ := ⟨by kernel_rfl, by kernel_rfl, .inr (by kernel_rfl)⟩
theorem tabOk147 : TIok Tryz.prog 147 ⟨1, .other, [.nilFunc]⟩ := ⟨by kernel_rfl, by kernel_rfl, .inr (by kernel_rfl)⟩
theorem tabOk149 : TIok Tryz.prog 149 ⟨1, .other, [.nilFunc]⟩ := ⟨by kernel_rfl, by kernel_rfl, .inr (by kernel_rfl)⟩
theorem tabOk150 : TIok Tryz.prog 150 ⟨1, .other, [.nilFunc]⟩ := ⟨by kernel_rfl, by kernel_rfl, .inr (by kernel_rfl)⟩
theorem tabOk151 : TIok Tryz.prog 151 ⟨1, .other, [.nilFunc]⟩ := ⟨by kernel_rfl, by kernel_rfl, .inr (by kernel_rfl)⟩
theorem tabOk152 : TIok Tryz.prog 152 ⟨1, .ptr, [.pointer none]⟩ := ⟨by kernel_rfl, by kernel_rfl, .inr (by kernel_rfl)⟩
theorem tabOk153 : TIok Tryz.prog 153 ⟨1, .slice 5 1 false, [.slice none 0 0]⟩ := ⟨by kernel_rfl, by kernel_rfl, .inr (by kernel_rfl)⟩
theorem tabOk154 : TIok Tryz.prog 154 ⟨2, .struct [(0, 1, false), (1, 1, false)], [.pointer none, .slice none 0 0]⟩ := ⟨by kernel_rfl, by kernel_rfl, .inr (by kernel_rfl)⟩
theorem tabOk155 : TIok Tryz.prog 155 ⟨2, .struct [(0, 1, false), (1, 1, false)], [.pointer none, .slice none 0 0]⟩ := ⟨by kernel_rfl, by kernel_rfl, .inr (by kernel_rfl)⟩
theorem tabOk156 : TIok Tryz.prog 156 ⟨1, .other, [.nilFunc]⟩ := ⟨by kernel_rfl, by kernel_rfl, .inr (by kernel_rfl)⟩
theorem tabOk157 : TIok Tryz.prog 157 ⟨1, .other, [.nilFunc]⟩ := ⟨by kernel_rfl, by kernel_rfl, .inr (by kernel_rfl)⟩
theorem tabOk158 : TIok Tryz.prog 158 ⟨1, .other, [.nilFunc]⟩ := ⟨by kernel_rfl, by kernel_rfl, .inr (by kernel_rfl)⟩
theorem tabOk159 : TIok Tryz.prog 159 ⟨1, .other, [.nilFunc]⟩ := ⟨by kernel_rfl, by kernel_rfl, .inr (by kernel_rfl)⟩
theorem tabOk160 : TIok Tryz.prog 160 ⟨1, .int, [.int .i64 0]⟩ := ⟨by kernel_rfl, by kernel_rfl, .inr (by kernel_rfl)⟩
theorem tabOk162 : TIok Tryz.prog 162 ⟨1, .other, [.nilFunc]⟩ := ⟨by kernel_rfl, by kernel_rfl, .inr (by kernel_rfl)⟩
theorem tabOk163 : TIok Tryz.prog 163 ⟨1, .ptr, [.pointer none]⟩ := ⟨by kernel_rfl, by kernel_rfl, .inr (by kernel_rfl)⟩
theorem tabOk164 : TIok Tryz.prog 164 ⟨1, .other, [.nilFunc]⟩ := ⟨by kernel_rfl, by kernel_rfl, .inr (by kernel_rfl)⟩
theorem tabOk165 : TIok Tryz.prog 165 ⟨1, .other, [.nilFunc]⟩ := ⟨by kernel_rfl, by kernel_rfl, .inr (by kernel_rfl)⟩
theorem tabOk166 : TIok Tryz.prog 166 ⟨1, .other, [.nilFunc]⟩ := ⟨by kernel_rfl, by kernel_rfl, .inr (by kernel_rfl)⟩
theorem tabOk167 : TIok Tryz.prog 167 ⟨1, .ptr, [.pointer none]⟩ := ⟨by kernel_rfl, by kernel_rfl, .inr (by kernel_rfl)⟩
theorem tabOk168 : TIok Tryz.prog 168 ⟨256, .arr 256 5 1 false, []⟩ := ⟨by kernel_rfl, by kernel_rfl, .inl rfl⟩
theorem tabOk169 : TIok Tryz.prog 169 ⟨2, .struct [(0, 1, false), (1, 1, false)], [.int .u8 0, .int .u8 0]⟩ := ⟨by kernel_rfl, by kernel_rfl, .inr (by kernel_rfl)⟩
theorem tabOk170 : TIok Tryz.prog 170 ⟨2, .struct [(0, 1, false), (1, 1, false)], [.int .u8 0, .int .u8 0]⟩ := ⟨by kernel_rfl, by kernel_rfl, .inr (by kernel_rfl)⟩
theorem tabOk171 : TIok Tryz.prog 171 ⟨32, .arr 16 170 2 true, []⟩ := ⟨by kernel_rfl, by kernel_rfl, .inl rfl⟩
theorem tabOk173 : TIok Tryz.prog 173 ⟨1, .other, [.nilFunc]⟩ := ⟨by kernel_rfl, by kernel_rfl, .inr (by kernel_rfl)⟩
theorem tabOk175 : TIok Tryz.prog 175 ⟨1, .other, [.nilFunc]⟩ := ⟨by kernel_rfl, by kernel_rfl, .inr (by kernel_rfl)⟩
theorem tabOk176 : TIok Tryz.prog 176 ⟨1, .other, [.nilFunc]⟩ := ⟨by kernel_rfl, by kernel_rfl, .inr (by kernel_rfl)⟩
theorem tabOk177 : TIok Tryz.prog 177 ⟨3, .struct [(0, 1, false), (1, 1, false), (2, 1, false)], [.string ByteArray.empty, .string ByteArray.empty, .nilIface]⟩ := ⟨by kernel_rfl, by kernel_rfl, .inr (by kernel_rfl)⟩
theorem tabOk178 : TIok Tryz.prog 178 ⟨3, .struct [(0, 1, false), (1, 1, false), (2, 1, false)], [.string ByteArray.empty, .string ByteArray.empty, .nilIface]⟩ := ⟨by kernel_rfl, by kernel_rfl, .inr (by kernel_rfl)⟩
theorem tabOk179 : TIok Tryz.prog 179 ⟨1, .other, [.nilFunc]⟩ := ⟨by kernel_rfl, by kernel_rfl, .inr (by kernel_rfl)⟩
theorem tabOk180 : TIok Tryz.prog 180 ⟨24, .arr 24 5 1 false, []⟩ := ⟨by kernel_rfl, by kernel_rfl, .inl rfl⟩
theorem tabOk181 : TIok Tryz.prog 181 ⟨1, .other, [.nilFunc]⟩ := ⟨by kernel_rfl, by kernel_rfl, .inr (by kernel_rfl)⟩
theorem tabOk182 : TIok Tryz.prog 182 ⟨1, .other, [.nilFunc]⟩ := ⟨by kernel_rfl, by kernel_rfl, .inr (by kernel_rfl)⟩
theorem tabOk184 : TIok Tryz.prog 184 ⟨1, .other, [.nilFunc]⟩ := ⟨by kernel_rfl, by kernel_rfl, .inr (by kernel_rfl)⟩
theorem tabOk185 : TIok Tryz.prog 185 ⟨1, .other, [.nilFunc]⟩ := ⟨by kernel_rfl, by kernel_rfl, .inr (by kernel_rfl)⟩
theorem tabOk186 : TIok Tryz.prog 186 ⟨1, .other, [.nilFunc]⟩ := ⟨by kernel_rfl, by kernel_rfl, .inr (by kernel_rfl)⟩
theorem tabOk187 : TIok Tryz.prog 187 ⟨1, .other, [.nilFunc]⟩ := ⟨by kernel_rfl, by kernel_rfl, .inr (by kernel_rfl)⟩
theorem tabOk188 : TIok Tryz.prog 188 ⟨1, .other, [.nilFunc]⟩ := ⟨by kernel_rfl, by kernel_rfl, .inr (by kernel_rfl)⟩
theorem tabOk189 : TIok Tryz.prog 189 ⟨1, .ptr, [.pointer none]⟩ := ⟨by kernel_rfl, by kernel_rfl, .inr (by kernel_rfl)⟩
theorem tabOk190 : TIok Tryz.prog 190 ⟨1, .struct [(0, 1, false)], [.string ByteArray.empty]⟩ := ⟨by kernel_rfl, by kernel_rfl, .inr (by kernel_rfl)⟩
theorem tabOk191 : TIok Tryz.prog 191 ⟨1, .struct [(0, 1, false)], [.string ByteArray.empty]⟩ := ⟨by kernel_rfl, by kernel_rfl, .inr (by kernel_rfl)⟩
theorem tabOk192 : TIok Tryz.prog 192 ⟨1, .other, [.nilFunc]⟩ := ⟨by kernel_rfl, by kernel_rfl, .inr (by kernel_rfl)⟩
theorem tabOk193 : TIok Tryz.prog 193 ⟨20, .arr 20 69 1 false, []⟩ := ⟨by kernel_rfl, by kernel_rfl, .inl rfl⟩
theorem tabOk194 : TIok Tryz.prog 194 ⟨65, .arr 65 5 1 false, []⟩ := ⟨by kernel_rfl, by kernel_rfl, .inl rfl⟩
theorem tabOk195 : TIok Tryz.prog 195 ⟨1, .other, [.nilFunc]⟩ := ⟨by kernel_rfl, by kernel_rfl, .inr (by kernel_rfl)⟩
theorem tabOk196 : TIok Tryz.prog 196 ⟨1, .other, [.nilFunc]⟩ := ⟨by kernel_rfl, by kernel_rfl, .inr (by kernel_rfl)⟩
theorem tabOk197 : TIok Tryz.prog 197 ⟨1, .other, [.nilFunc]⟩ := ⟨by kernel_rfl, by kernel_rfl, .inr (by kernel_rfl)⟩
theorem tabOk198 : TIok Tryz.prog 198 ⟨32, .arr 32 5 1 false, []⟩ := ⟨by kernel_rfl, by kernel_rfl, .inl rfl⟩
theorem tabOk199 : TIok Tryz.prog 199 ⟨64, .arr 64 5 1 false, []⟩ := ⟨by kernel_rfl, by kernel_rfl, .inl rfl⟩
theorem tabOk205 : TIok Tryz.prog 205 ⟨1, .other, [.nilFunc]⟩ := ⟨by kernel_rfl, by kernel_rfl, .inr (by kernel_rfl)⟩
theorem tabOk208 : TIok Tryz.prog 208 ⟨1, .other, [.nilFunc]⟩ := ⟨by kernel_rfl, by kernel_rfl, .inr (by kernel_rfl)⟩
theorem tabOk213 : TIok Tryz.prog 213 ⟨1, .other, [.nilFunc]⟩ := ⟨by kernel_rfl, by kernel_rfl, .inr (by kernel_rfl)⟩
theorem tabOk219 : TIok Tryz.prog 219 ⟨1, .other, [.int .u16 0]⟩ := ⟨by kernel_rfl, by kernel_rfl, .inr (by kernel_rfl)⟩
theorem tabOk226 : TIok Tryz.prog 226 ⟨1, .ptr, [.pointer none]⟩ := ⟨by kernel_rfl, by kernel_rfl, .inr (by kernel_rfl)⟩
set_option maxRecDepth 100000 in
theorem tabOk : TabOk Tryz.prog tab :=
  TabOk.of_all (⟨tabOk1, ⟨tabOk2, ⟨tabOk3, ⟨tabOk4, ⟨tabOk5, ⟨tabOk9, ⟨tabOk12, ⟨tabOk13, ⟨tabOk20, ⟨tabOk21, ⟨tabOk22, ⟨tabOk23, ⟨tabOk24, ⟨tabOk25, ⟨tabOk26, ⟨tabOk28, ⟨tabOk29, ⟨tabOk30, ⟨tabOk31, ⟨tabOk32, ⟨tabOk34, ⟨tabOk35, ⟨tabOk37, ⟨tabOk38, ⟨tabOk39, ⟨tabOk40, ⟨tabOk41, ⟨tabOk42, ⟨tabOk43, ⟨tabOk45, ⟨tabOk46, ⟨tabOk47, ⟨tabOk48, ⟨tabOk49, ⟨tabOk50, ⟨tabOk51, ⟨tabOk52, ⟨tabOk53, ⟨tabOk54, ⟨tabOk56, ⟨tabOk57, ⟨tabOk59, ⟨tabOk60, ⟨tabOk61, ⟨tabOk62, ⟨tabOk63, ⟨tabOk64, ⟨tabOk69, ⟨tabOk72, ⟨tabOk75, ⟨tabOk76, ⟨tabOk77, ⟨tabOk81, ⟨tabOk84, ⟨tabOk86, ⟨tabOk90, ⟨tabOk91, ⟨tabOk92, ⟨tabOk93, ⟨tabOk94, ⟨tabOk96, ⟨tabOk98, ⟨tabOk99, ⟨tabOk100, ⟨tabOk101, ⟨tabOk102, ⟨tabOk103, ⟨tabOk104, ⟨tabOk105, ⟨tabOk106, ⟨tabOk107, ⟨tabOk108, ⟨tabOk109, ⟨tabOk110, ⟨tabOk111, ⟨tabOk118, ⟨tabOk120, ⟨tabOk121, ⟨tabOk122, ⟨tabOk123, ⟨tabOk124, ⟨tabOk125, ⟨tabOk126, ⟨tabOk127, ⟨tabOk128, ⟨tabOk130, ⟨tabOk131, ⟨tabOk132, ⟨tabOk133, ⟨tabOk134, ⟨tabOk135, ⟨tabOk136, ⟨tabOk137, ⟨tabOk138, ⟨tabOk139, ⟨tabOk140, ⟨tabOk141, ⟨tabOk142, ⟨tabOk143, ⟨tabOk144, ⟨tabOk146, ⟨tabOk147, ⟨tabOk149, ⟨tabOk150, ⟨tabOk151, ⟨tabOk152, ⟨tabOk153, ⟨tabOk154, ⟨tabOk155, ⟨tabOk156, ⟨tabOk157, ⟨tabOk158, ⟨tabOk159, ⟨tabOk160, ⟨tabOk162, ⟨tabOk163, ⟨tabOk164, ⟨tabOk165, ⟨tabOk166, ⟨tabOk167, ⟨tabOk168, ⟨tabOk169, ⟨tabOk170, ⟨tabOk171, ⟨tabOk173, ⟨tabOk175, ⟨tabOk176, ⟨tabOk177, ⟨tabOk178, ⟨tabOk179, ⟨tabOk180, ⟨tabOk181, ⟨tabOk182, ⟨tabOk184, ⟨tabOk185, ⟨tabOk186, ⟨tabOk187, ⟨tabOk188, ⟨tabOk189, ⟨tabOk190, ⟨tabOk191, ⟨tabOk192, ⟨tabOk193, ⟨tabOk194, ⟨tabOk195, ⟨tabOk196, ⟨tabOk197, ⟨tabOk198, ⟨tabOk199, ⟨tabOk205, ⟨tabOk208, ⟨tabOk213, ⟨tabOk219, ⟨tabOk226, trivial⟩⟩⟩⟩⟩⟩⟩⟩⟩⟩⟩⟩⟩⟩⟩⟩⟩⟩⟩⟩⟩⟩⟩⟩⟩⟩⟩⟩⟩⟩⟩⟩⟩⟩⟩⟩⟩⟩⟩⟩⟩⟩⟩⟩⟩⟩⟩⟩⟩⟩⟩⟩⟩⟩⟩⟩⟩⟩⟩⟩⟩⟩⟩⟩⟩⟩⟩⟩⟩⟩⟩⟩⟩⟩⟩⟩⟩⟩⟩⟩⟩⟩⟩⟩⟩⟩⟩⟩⟩⟩⟩⟩⟩⟩⟩⟩⟩⟩⟩⟩⟩⟩⟩⟩⟩⟩⟩⟩⟩⟩⟩⟩⟩⟩⟩⟩⟩⟩⟩⟩⟩⟩⟩⟩⟩⟩⟩⟩⟩⟩⟩⟩⟩⟩⟩⟩⟩⟩⟩⟩⟩⟩⟩⟩⟩⟩⟩⟩⟩⟩⟩⟩⟩⟩)
theorem mixed : Tryz.prog.follows .mixedOrders = true := by kernel_rfl
end Go.Proofs.YtgcbcagaibecbaaGreatDoor

namespace Go.Proofs.YtgcbcagaibecbaaGreatDoor.Pool
set_option maxRecDepth 20000
open Go Go.Conc Gap Go.Conc.Lib
open Go.ConcR (Payload)

abbrev wgL : WgLink := { add := 42, done := 45, wait := 27, relMerge := 69, disable := 46, enable := 48, inBubble := 54, associate := 70, fatal := 71, uOr := 72, uAdd := 73, raceRead := 74, uLoad := 47, uStore := 75, disassociate := 52, semrelease := 76, acquire := 49, isAssociated := 50, uCas := 51, raceWrite := 53, semacquire := 55, orU64 := 89, addU64 := 90, loadU64 := 77, storeU64 := 91, casU64 := 78, tWgP := 102, tUP := 78, tAssoc := 134, tWg := 74, tAU := 71, tU64 := 69, tUint := 105, tU32 := 72, tPU32 := 110, tPAU := 140, tPU64 := 142, tNoCopy := 66, tANoCopy := 67, tAlign64 := 68 }
theorem wgH : WgLib Tryz.prog wgL :=
  ⟨Tryz.func42, Tryz.func45, Tryz.func27, Tryz.func69, Tryz.func46, Tryz.func48, Tryz.func54, Tryz.func70, Tryz.func71, Tryz.func72, Tryz.func73, Tryz.func74, Tryz.func47, Tryz.func75, Tryz.func52, Tryz.func76, Tryz.func49, Tryz.func50, Tryz.func51, Tryz.func53, Tryz.func55, Tryz.func89, Tryz.func90, Tryz.func77, Tryz.func91, Tryz.func78,
   Tryz.underlying102, Tryz.runUnderlying102, Tryz.sizeOf102, Tryz.isAgg102, Tryz.zeroValue102,
   Tryz.underlying78, Tryz.runUnderlying78, Tryz.sizeOf78, Tryz.isAgg78, Tryz.zeroValue78,
   Tryz.underlying134, Tryz.runUnderlying134, Tryz.sizeOf134, Tryz.isAgg134, Tryz.zeroValue134,
   Tryz.underlying74, Tryz.runUnderlying74, Tryz.sizeOf74, Tryz.isAgg74, Tryz.zeroValue74,
   Tryz.underlying71, Tryz.runUnderlying71, Tryz.sizeOf71, Tryz.isAgg71, Tryz.zeroValue71,
   Tryz.underlying69, Tryz.runUnderlying69, Tryz.sizeOf69, Tryz.isAgg69, Tryz.zeroValue69,
   Tryz.underlying105, Tryz.runUnderlying105, Tryz.sizeOf105, Tryz.isAgg105, Tryz.zeroValue105,
   Tryz.underlying72, Tryz.runUnderlying72, Tryz.sizeOf72, Tryz.isAgg72, Tryz.zeroValue72,
   Tryz.underlying110, Tryz.runUnderlying110, Tryz.sizeOf110, Tryz.isAgg110, Tryz.zeroValue110,
   Tryz.underlying140, Tryz.runUnderlying140, Tryz.sizeOf140, Tryz.isAgg140, Tryz.zeroValue140,
   Tryz.underlying142, Tryz.runUnderlying142, Tryz.sizeOf142, Tryz.isAgg142, Tryz.zeroValue142,
   Tryz.underlying0, Tryz.runUnderlying0, Tryz.sizeOf0, Tryz.isAgg0, Tryz.zeroValue0,
   Tryz.underlying3, Tryz.runUnderlying3, Tryz.sizeOf3, Tryz.isAgg3, Tryz.zeroValue3,
   Tryz.underlying4, Tryz.runUnderlying4, Tryz.sizeOf4, Tryz.isAgg4, Tryz.zeroValue4,
   Tryz.underlying9, Tryz.runUnderlying9, Tryz.sizeOf9, Tryz.isAgg9, Tryz.zeroValue9,
   Tryz.underlying20, Tryz.runUnderlying20, Tryz.sizeOf20, Tryz.isAgg20, Tryz.zeroValue20,
   Tryz.underlying21, Tryz.runUnderlying21, Tryz.sizeOf21, Tryz.isAgg21, Tryz.zeroValue21, (by kernel_rfl), (by kernel_rfl)⟩
instance : Payload := ⟨102⟩
end Go.Proofs.YtgcbcagaibecbaaGreatDoor.Pool
