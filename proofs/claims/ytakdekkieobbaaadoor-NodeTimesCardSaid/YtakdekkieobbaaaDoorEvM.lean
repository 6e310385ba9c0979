
/-
  Cuts: a piece of code as it runs, of which no more is reckoned than is asked; what is known behind a piece, under whichever of its arms.
-/
import Derived.Test.YtakdekkieobbaaaDoorEvK
import Derived.Test.YtakdekkieobbaaaDoorEvH
namespace Go.Proofs.YtakdekkieobbaaaDoor.Ev
open Go

structure EvC (P : Program) (τ : Tab) (N : Nat) (c : Code) (Q : EQ) (σ : Slots) (w : World) : Prop where
  go : ∀ a, Fits N σ a → c.wp P (lift N Q) a w
def cutQ (M : Slots → World → Prop) (Q : EQ) : EQ := fun e σ w => match e with
  | .normal => CutE M σ w
  | e => Q e σ w

section
variable {P : Program} {τ : Tab} {N : Nat} {σ σ' : Slots} {w : World} {Q : EQ}

theorem EvC.ev (hτ : TabOk P τ) {c : Code} (h : evR P τ N c Q σ w) : EvC P τ N c Q σ w := ⟨fun a hf => by
  rw [evR_eq] at h
  exact ev_sound hτ c Q σ a w hf h⟩
theorem EvC.weak {c : Code} (hs : Sub σ' σ) (h : EvC P τ N c Q σ' w) : EvC P τ N c Q σ w := ⟨fun a hf => h.go a (hf.weaken hs.look_)⟩
theorem lift_seq {y : Code} {e : Exit} {a : Act} {w : World} (h : lift N (seqQ (EvC P τ N y) Q) e a w) : match e with | .normal => y.wp P (lift N Q) a w | e => lift N Q e a w := by
  cases e with
  | normal =>
    obtain ⟨σ, hf, hq⟩ := h
    exact hq.go a hf
  | exit i => exact h
  | ret => exact h
  | goto l => exact h.elim
  | panic c => exact h.elim
  | outgrown => exact h.elim
/-- The first piece is reckoned, the second waits. -/
theorem EvC.seq (hτ : TabOk P τ) {x y : Code} (h : evR P τ N x (seqQ (EvC P τ N y) Q) σ w) : EvC P τ N (.seq x y) Q σ w := ⟨fun a hf => by
  rw [evR_eq] at h
  refine wp_seq (wp_mono (ev_sound hτ x _ σ a w hf h) ?_)
  intro e a w hq
  have := lift_seq hq
  cases e <;> exact this⟩
theorem EvC.seqC {x y : Code} (h : EvC P τ N x (seqQ (EvC P τ N y) Q) σ w) : EvC P τ N (.seq x y) Q σ w := ⟨fun a hf => by
  refine wp_seq (wp_mono (h.go a hf) ?_)
  intro e a w hq
  have := lift_seq hq
  cases e <;> exact this⟩
/-- A cut between the two. -/
theorem EvC.cut (M : Slots → World → Prop) {x y : Code} (h : EvC P τ N x (cutQ M Q) σ w) (hy : ∀ σ w, M σ w → EvC P τ N y Q σ w) : EvC P τ N (.seq x y) Q σ w := ⟨fun a hf => by
  refine wp_seq (wp_mono (h.go a hf) ?_)
  intro e a w hq
  cases e with
  | normal =>
    obtain ⟨σ, hf, hq⟩ := hq
    obtain ⟨σ', hs, hm⟩ := hq.ex
    exact (hy _ _ hm).go a (hf.weaken hs.look_)
  | exit i => exact hq
  | ret => exact hq
  | goto l => exact hq.elim
  | panic c => exact hq.elim
  | outgrown => exact hq.elim⟩
theorem EvC.block {id : Nat} {c : Code} (h : EvC P τ N c (blockQ id Q) σ w) : EvC P τ N (.block id c) Q σ w := ⟨fun a hf => by
  refine wp_block (wp_mono (h.go a hf) ?_)
  intro e a w hq
  cases e with
  | normal => exact hq
  | exit i =>
    obtain ⟨σ', hf', hq⟩ := hq
    unfold Exit.inBlock
    simp only
    have hq : (match Nat.beq i id with | true => Q .normal σ' w | false => Q (.exit i) σ' w) := hq
    split at hq
    · rename_i hb
      rw [if_pos (Nat.eq_of_beq_eq_true hb)]
      exact ⟨σ', hf', hq⟩
    · rename_i hb
      rw [if_neg (Nat.ne_of_beq_eq_false hb)]
      exact ⟨σ', hf', hq⟩
  | ret => exact hq
  | goto l => exact hq.elim
  | panic c => exact hq.elim
  | outgrown => exact hq.elim⟩
theorem EvC.loop {c : Code} (h : LoopC P τ N c Q σ w) : EvC P τ N (.loop c) Q σ w := ⟨fun a hf => h.go a hf⟩
/-- What holds under a weaker aim. -/
theorem EvC.mono {c : Code} {Q' : EQ} (h : EvC P τ N c Q' σ w) (hq : ∀ e σ w, Q' e σ w → Q e σ w) : EvC P τ N c Q σ w := ⟨fun a hf => wp_mono (h.go a hf) fun e a w hl => by
  cases e with
  | normal => obtain ⟨σ, h1, h2⟩ := hl; exact ⟨σ, h1, hq _ _ _ h2⟩
  | exit i => obtain ⟨σ, h1, h2⟩ := hl; exact ⟨σ, h1, hq _ _ _ h2⟩
  | ret => obtain ⟨σ, h1, h2⟩ := hl; exact ⟨σ, h1, hq _ _ _ h2⟩
  | goto l => exact hl.elim
  | panic c => exact hl.elim
  | outgrown => exact hl.elim⟩

theorem fnC (hτ : TabOk P τ) {f : FuncId} {fn : Func} {c : Code} {args : List Value} {R : Value → World → Prop} (hf : P.funcs[f]? = some fn) (hname : (fn.name == "runtime.NumGoroutine") = false) (hb : fn.body = some c) (hN : fn.ntmps = N)
    (hle : args.length ≤ N) (h : EvC P τ N c (bodyQ τ fn.results.toList R) (initS 0 args) w) : CallC P f args.toArray w R := by
  have hname' : ¬ fn.name = "runtime.NumGoroutine" := by simpa using hname
  refine ⟨.inl ⟨by simp [callFunc, program, Sem.run, hf, hname', hb], ?_⟩⟩
  refine calls_of_wp hf hb ?_
  rw [hN]
  refine wp_mono (h.go _ (fits_init hle)) ?_
  have fin : ∀ (σ : Slots) (a : Act) (w : World), Fits N σ a → (resK τ σ w fn.results.toList fun vs => match vs with
    | [v] => RetC (R v w)
    | vs => RetC (R (.tuple vs.toArray) w)) → a.defers = [] ∧ ∃ v, (results fn a.tmps).run P w = .ok v w ∧ ∃ u, Ending.returned v = .returned u ∧ R u w := by
    intro σ a w hfit hq
    refine ⟨hfit.defers, ?_⟩
    obtain ⟨vs, h1, h2, h3⟩ := resK_sound hτ hfit _ _ hq
    have hm : (fn.results.mapM (resOne a.tmps)).run P w = .ok vs.toArray w := by
      rw [Array.mapM_eq_mapM_toList, Sem.run_map, h1]
      rfl
    have hres : (results fn a.tmps).run P w = .ok (if h : vs.toArray.size = 1 then vs.toArray[0] else .tuple vs.toArray) w := by
      rw [results_eq, Sem.run_bind, hm]
      rfl
    refine ⟨_, hres, _, rfl, ?_⟩
    split at h2
    · simpa using h2.h
    · rename_i hne
      rw [dif_neg (by
        intro hs
        match vs, hs with
        | [v], _ => exact hne v rfl)]
      exact h2.h
  intro e a w hq
  cases e with
  | normal => obtain ⟨σ, hfit, hq⟩ := hq; exact fin σ a w hfit hq
  | ret => obtain ⟨σ, hfit, hq⟩ := hq; exact fin σ a w hfit hq
  | exit i => obtain ⟨σ, hfit, hq⟩ := hq; exact hq.elim
  | goto l => exact hq.elim
  | panic c => exact hq.elim
  | outgrown => exact hq.elim

theorem loopM {body : Code} (I : Slots → World → Nat → Prop) {n : Nat} (hs : Sub σ' σ) (h0 : I σ' w n)
    (hr : ∀ σ w n, I σ w n → EvC P τ N body (loopQ I n Q) σ w) : LoopC P τ N body Q σ w := by
  refine ⟨fun a hf b k cs => ?_⟩
  have key : ∀ n σ a w, Fits N σ a → I σ w n → ∃ e a' w', lift N Q e a' w' ∧ Arrives P (lone (b.at a (.code body :: .inLoop body :: k)) cs w) b k cs e a' w' := by
    intro n
    induction n using Nat.strongRecOn with
    | _ n ih =>
      intro σ a w hf hI
      obtain ⟨e, a₁, w₁, hq, harr⟩ := (hr σ w n hI).go a hf b (.inLoop body :: k) cs
      cases e with
      | normal =>
        obtain ⟨σ₁, hf₁, hq⟩ := hq
        obtain ⟨n', σ₂, hlt, hsub, hI'⟩ := hq.ex
        obtain ⟨e₂, a₂, w₂, hq₂, harr₂⟩ := ih n' hlt σ₂ a₁ w₁ (hf₁.weaken hsub.look_) hI'
        exact ⟨e₂, a₂, w₂, hq₂, .of_steps (Steps.trans harr (.one step_inLoop)) harr₂⟩
      | exit id => exact ⟨.exit id, a₁, w₁, hq, .pass (x := .inLoop body) rfl (fun _ _ => .inl (by simp)) harr⟩
      | ret => exact ⟨.ret, a₁, w₁, hq, .pass (x := .inLoop body) rfl (fun _ _ => .inl (by simp)) harr⟩
      | goto l => exact hq.elim
      | panic ch => exact hq.elim
      | outgrown => exact hq.elim
  obtain ⟨e, a', w', hq, harr⟩ := key n σ' a w (hf.weaken hs.look_) h0
  exact ⟨e, a', w', hq, .of_steps (.one step_loop) harr⟩
end
end Go.Proofs.YtakdekkieobbaaaDoor.Ev
namespace Go.Proofs.YtakdekkieobbaaaDoor.Ev
open Go
/-- A step that turns number i alone, and makes a new thing. -/
theorem St.updMade {w0 w w' : World} {S T : Nat → Prop} {H : List Ent} (h : St w0 S w H) (i : Nat) {e e' f : Ent} (hi : H[i]? = some e) (k : Ext T w w') (hT : ∀ b, T b → b ∈ e.foot) (hl : e'.Local) (hh : e'.holds w') (hf : ∀ b ∈ e'.foot, b ∈ e.foot) (gl : f.Local) (gh : f.holds w') (gf : ∀ b ∈ f.foot, w.heap.size ≤ b ∧ b < w'.heap.size) : St w0 S w' (H.set i e' ++ [f]) := by
  refine (h.upd i hi k hT hl hh fun b hb => .inl (hf b hb)).add gl gh (fun b hb => ⟨.inr (Nat.le_trans h.ext.size (gf b hb).1), (gf b hb).2⟩) ?_
  intro q hq b hb hb'
  have lt : b < w.heap.size := by
    rcases List.mem_or_eq_of_mem_set hq with hq | rfl
    · exact (h.may q hq b hb).2
    · exact (h.may e (List.mem_of_getElem? hi) b (hf b hb)).2
  have := (gf b hb').1
  omega
end Go.Proofs.YtakdekkieobbaaaDoor.Ev
