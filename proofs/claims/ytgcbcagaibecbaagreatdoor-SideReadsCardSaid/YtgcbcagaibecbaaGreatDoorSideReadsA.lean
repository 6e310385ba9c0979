/-
  Texts of this claim, joined: GapA, PoolA, PoolB, PoolC, PoolD, PoolE, PoolF, PoolG, PoolH, PoolI, PoolJ.
-/
import Derived.Conc.CompanyDraw
import Derived.Conc.Listed
import Derived.OrdersHeld
import Derived.Laws.Sem
import Derived.Conc.Beside
import Derived.Conc.CrowdTrace
import Derived.Conc.CrowdBase
import Derived.Conc.CrowdSel
import Derived.Conc.CrowdRun
set_option linter.unusedSectionVars false
set_option linter.unusedSimpArgs false
set_option linter.unusedVariables false

namespace Go.Proofs.YtgcbcagaibecbaaGreatDoor.Gap
set_option maxRecDepth 20000
open Go Go.Conc

def okObj : Obj → Bool
  | .cells .. | .map .. | .mapIter .. | .stringIter .. | .chan .. => true
  | _ => false

def grow (O : Nat → Prop) (w w' : World) : Nat → Prop := fun b => O b ∨ (w.heap.size ≤ b ∧ b < w'.heap.size)

def EvOk (O Z : Nat → Prop) (e : Event) : Prop :=
  match e.loc with
  | .cell a => e.sync = false ∧ (O a.block ∨ (Z a.block ∧ e.write = false))
  | .obj r => (e.sync = false ∨ e.write = false) ∧ O r
  | .mark .noRoom => True
  | .mark (.extern _) => True
  | _ => False

structure Rely (O Z : Nat → Prop) (w w1 : World) : Prop where
  os : w1.os = w.os
  tape : w1.tape = w.tape
  output : w1.output = w.output
  size : w.heap.size ≤ w1.heap.size
  keep : ∀ b, O b ∨ Z b → w1.heap[b]? = w.heap[b]?

structure Guar (O Z : Nat → Prop) (w w' : World) (es : Array Event) : Prop where
  os : w'.os = w.os
  tape : w'.tape = w.tape
  output : w'.output = w.output
  size : w.heap.size ≤ w'.heap.size
  keep : ∀ b, b < w.heap.size → ¬ O b → w'.heap[b]? = w.heap[b]?
  evs : ∀ e ∈ es, EvOk (grow O w w') Z e

section
variable {O Z : Nat → Prop} {w w1 w2 w' W W' : World}
theorem Rely.refl (w : World) : Rely O Z w w := ⟨rfl, rfl, rfl, Nat.le_refl _, fun _ _ => rfl⟩
theorem Rely.trans (h : Rely O Z w w1) (k : Rely O Z w1 w2) : Rely O Z w w2 := ⟨k.os.trans h.os, k.tape.trans h.tape, k.output.trans h.output, Nat.le_trans h.size k.size, fun b hb => (k.keep b hb).trans (h.keep b hb)⟩
theorem grow_trans (h1 : w.heap.size ≤ w1.heap.size) (h2 : w1.heap.size ≤ w2.heap.size) : grow (grow O w w1) w1 w2 = grow O w w2 := by
  funext b
  simp only [grow, eq_iff_iff]
  constructor
  · rintro ((h | ⟨h, h'⟩) | ⟨h, h'⟩)
    · exact .inl h
    · exact .inr ⟨h, by omega⟩
    · exact .inr ⟨by omega, h'⟩
  · rintro (h | ⟨h, h'⟩)
    · exact .inl (.inl h)
    · by_cases hb : b < w1.heap.size
      · exact .inl (.inr ⟨h, hb⟩)
      · exact .inr ⟨by omega, h'⟩
theorem grow_same (h : w'.heap.size = w.heap.size) : grow O w w' = O := by
  funext b
  simp only [grow, eq_iff_iff, h]
  exact ⟨fun x => x.elim id fun x => by omega, .inl⟩
theorem grow_self (w : World) : grow O w w = O := grow_same rfl
theorem EvOk.mono {O' : Nat → Prop} {e : Event} (h : EvOk O Z e) (ho : ∀ b, O b → O' b) : EvOk O' Z e := by
  unfold EvOk at *
  split at h
  · exact ⟨h.1, h.2.imp (ho _) id⟩
  · exact ⟨h.1, ho _ h.2⟩
  · trivial
  · trivial
  · exact h.elim
theorem Guar.refl (w : World) : Guar O Z w w #[] := ⟨rfl, rfl, rfl, Nat.le_refl _, fun _ _ _ => rfl, by simp⟩
end

class Leaps where
  leap : Program → Bool → (Nat → Prop) → (Nat → Prop) → Goroutine → World → ((Nat → Prop) → Goroutine → World → Prop) → Prop
@[reducible] def noLeaps : Leaps := ⟨fun _ _ _ _ _ _ _ => False⟩

section
variable [Leaps] (P : Program) (main : Bool) (Z : Nat → Prop) (Stop : (Nat → Prop) → Goroutine → World → Prop)
inductive Way : (Nat → Prop) → Goroutine → World → Prop
  | stop {O : Nat → Prop} {g : Goroutine} {W : World} : (∀ W1, Rely O Z W W1 → Stop O g W1) → Way O g W
  | step {O : Nat → Prop} {g : Goroutine} {W : World} : g.status = .running → (∀ W1, Rely O Z W W1 → ∃ g' W' es, stepG P main g W1 = .go g' W' es ∧ Guar O Z W1 W' es) →
      (∀ W1 g' W' es, Rely O Z W W1 → stepG P main g W1 = .go g' W' es → Way (grow O W1 W') g' W') → Way O g W
  | leap {O : Nat → Prop} {g : Goroutine} {W : World} (T : (Nat → Prop) → Goroutine → World → Prop) : g.status = .running → (∀ W1, Rely O Z W W1 → Leaps.leap P main Z O g W1 T) → (∀ O' g' W', T O' g' W' → Way O' g' W') → Way O g W
end
section
variable [Leaps] {P : Program} {main : Bool} {Z : Nat → Prop} {Stop : (Nat → Prop) → Goroutine → World → Prop} {O : Nat → Prop} {g : Goroutine} {W W1 : World}
theorem Way.rely (h : Way P main Z Stop O g W) (r : Rely O Z W W1) : Way P main Z Stop O g W1 := by
  cases h with
  | stop h => exact .stop fun W2 h2 => h W2 (r.trans h2)
  | step hs h k => exact .step hs (fun W2 h2 => h W2 (r.trans h2)) fun W2 g' W' es h2 => k W2 g' W' es (r.trans h2)
  | leap T hs h k => exact .leap T hs (fun W2 h2 => h W2 (r.trans h2)) k
theorem Way.next (hs : g.status = .running) (h : ∀ W1, Rely O Z W W1 → ∃ g' W' es, stepG P main g W1 = .go g' W' es ∧ Guar O Z W1 W' es ∧ Way P main Z Stop (grow O W1 W') g' W') : Way P main Z Stop O g W := by
  refine .step hs (fun W1 h1 => ?_) fun W1 g' W' es h1 he => ?_
  · obtain ⟨g', W', es, e, hg, _⟩ := h W1 h1
    exact ⟨g', W', es, e, hg⟩
  · obtain ⟨g2, W2, es2, e, _, hw⟩ := h W1 h1
    rw [he] at e
    injection e with e1 e2 e3
    subst e1 e2
    exact hw
theorem Way.ctl {g' : Goroutine} (hs : g.status = .running) (h : ∀ w, stepG P main g w = .go g' w) (hw : Way P main Z Stop O g' W) : Way P main Z Stop O g W :=
  .next hs fun W1 h1 => ⟨g', W1, #[], h W1, .refl _, by rw [grow_self]; exact hw.rely h1⟩
end

def glass (c : Array Value) (t : TypeId) : Obj := .cells c t (0, c.size + 1)
def dark : Obj := .cells #[] 0 (0, 1)

structure Lag (O Z : Nat → Prop) (w W : World) : Prop where
  os : w.os = W.os
  tape : w.tape = W.tape
  output : w.output = W.output
  size : w.heap.size ≤ W.heap.size
  own : ∀ b, O b → ∃ o, w.heap[b]? = some o ∧ W.heap[b]? = some o ∧ okObj o = true
  rest : ∀ b o, ¬ O b → w.heap[b]? = some o → (∃ t f, o = .cells #[] t f) ∨ (Z b ∧ ∃ c t f, W.heap[b]? = some (.cells c t f) ∧ o = glass c t)
  flat : ∀ b t, ¬ O b → w.heap[b]? = some (.cells #[] t (0, 0)) → Z b ∧ ∃ c, W.heap[b]? = some (.cells c t (0, 0))

section
variable {O Z : Nat → Prop} {w w1 w2 w' W W1 W' : World}
theorem Lag.rely (h : Lag O Z w W) (r : Rely O Z W W1) : Lag O Z w W1 := by
  refine ⟨h.os.trans r.os.symm, h.tape.trans r.tape.symm, h.output.trans r.output.symm, Nat.le_trans h.size r.size, fun b hb => ?_, fun b o hb ho => ?_, fun b t hb ho => ?_⟩
  · obtain ⟨o, h1, h2, h3⟩ := h.own b hb
    exact ⟨o, h1, (r.keep b (.inl hb)).trans h2, h3⟩
  · rcases h.rest b o hb ho with h1 | ⟨hz, c, t, f, h1, h2⟩
    · exact .inl h1
    · exact .inr ⟨hz, c, t, f, (r.keep b (.inr hz)).trans h1, h2⟩
  · obtain ⟨hz, c, h1⟩ := h.flat b t hb ho
    exact ⟨hz, c, (r.keep b (.inr hz)).trans h1⟩
theorem Lag.obj (h : Lag O Z w W) {b : Nat} {o : Obj} (ho : w.heap[b]? = some o) : okObj o = true := by
  by_cases hb : O b
  · obtain ⟨o', h1, _, h3⟩ := h.own b hb
    rw [h1] at ho
    cases ho
    exact h3
  · rcases h.rest b o hb ho with ⟨t, f, rfl⟩ | ⟨_, c, t, f, _, rfl⟩ <;> rfl
theorem Lag.cell (h : Lag O Z w W) {a : Addr} {v : Value} (hc : w.cell? a = some v) : W.cell? a = some v ∧ (O a.block ∨ Z a.block ∧ w.frozen? a = true) := by
  unfold World.cell? at hc ⊢
  split at hc
  · rename_i c t f ho
    by_cases hb : O a.block
    · obtain ⟨o', h1, h2, _⟩ := h.own _ hb
      rw [h1] at ho
      cases ho
      rw [h2]
      exact ⟨hc, .inl hb⟩
    · rcases h.rest _ _ hb ho with ⟨t', f', he⟩ | ⟨hz, c', t', f', h1, he⟩
      · cases he
        split at hc
        · cases hc
        · simp at hc
      · unfold glass at he
        cases he
        rw [h1]
        refine ⟨hc, .inr ⟨hz, ?_⟩⟩
        split at hc
        · cases hc
        · have : a.off < c.size := (Array.getElem?_eq_some_iff.1 hc).1
          simp only [World.frozen?, ho, Bool.and_eq_true, decide_eq_true_eq]
          omega
  · cases hc
end
end Go.Proofs.YtgcbcagaibecbaaGreatDoor.Gap

namespace Go.Proofs.YtgcbcagaibecbaaGreatDoor.Pool
set_option maxRecDepth 20000
open Go Go.Conc Gap

def onB (l : Loc) (b : Nat) : Prop :=
  match l with
  | .cell a => a.block = b
  | .obj r => r = b
  | _ => False
theorem onB.uniq {l : Loc} {b c : Nat} (h : onB l b) (k : onB l c) : b = c := by
  unfold onB at h k
  split at h <;> first | exact h.symm.trans k | exact h.elim
theorem onB.low {l : Loc} {b S : Nat} (h : onB l b) (k : l.low S) : b < S := by
  unfold onB at h
  split at h
  · subst h; exact k
  · subst h; exact k
  · exact h.elim

structure Apart (Sh Z : Nat → Prop) (O : Nat → Nat → Prop) (S : Nat) : Prop where
  two : ∀ g h b, g ≠ h → O g b → ¬ O h b
  shr : ∀ g b, O g b → ¬ Z b
  sh : ∀ g b, O g b → ¬ Sh b
  zsh : ∀ b, Z b → ¬ Sh b
  lo : ∀ g b, O g b → b < S
  loZ : ∀ b, Z b → b < S
  loS : ∀ b, Sh b → b < S

structure TOk (Shun : Loc → Prop) (Sh Z K : Nat → Prop) (O : Nat → Nat → Prop) (S : Nat) (t : Trace) : Prop where
  clean : ∀ said, ¬ Race said t
  own : ∀ g b, O g b → ∀ i a, touchAt t i = some a → onB a.loc b → Knows t g i
  shr : ∀ g, (g = 0 ∨ K g) → ∀ b, Z b → ∀ i a, touchAt t i = some a → onB a.loc b → a.write = true → Knows t g i
  sh : ∀ b, Sh b → ∀ i a, touchAt t i = some a → onB a.loc b → (a.kind = .plain → ∀ g, g = 0 ∨ K g → Knows t g i) ∧ (a.kind = .said → Knows t 0 i)
  low : ∀ i a, touchAt t i = some a → a.loc.low S
  known : ∀ i a, touchAt t i = some a → a.loc.isMemory = true → Knows t 0 i ∨ (∃ k, K k ∧ t.g? i = some k) ∨ (Shun a.loc ∧ a.kind = .atomic)
  over : ∀ i g, t.g? i = some g → g ≠ 0 → ¬ K g → t.counts i → ∃ j, t.g? j = some 0 ∧ HappensBefore t i j
  norel : ∀ op ∈ t, ∀ a, op.act ≠ .mark (.release a)
  off : ∀ l b, Shun l → onB l b → (∀ g, ¬ O g b) ∧ ¬ Z b ∧ b < S

def TouchOk (Sh Z : Nat → Prop) (Og : Nat → Prop) (g : Nat) (b : Touch) : Prop :=
  (∃ c, onB b.loc c ∧ (Og c ∨ (Z c ∧ b.write = false) ∨ (Sh c ∧ b.kind ≠ .plain ∧ (b.kind = .said → g = 0))))
def OpOk (Sh Z : Nat → Prop) (Og : Nat → Prop) (g : Nat) (op : MemOp) : Prop := op.g = g ∧ (∀ b, op.act.touch? = some b → TouchOk Sh Z Og g b) ∧ ∀ a, op.act ≠ .mark (.release a)

section
variable {Shun : Loc → Prop} {Sh Z K : Nat → Prop} {O O' : Nat → Nat → Prop} {S S' : Nat} {t u : Trace} {g : Nat}

theorem onB.lt {l : Loc} {b S : Nat} (h : onB l b) (k : b < S) : l.low S := by
  unfold onB at h
  split at h
  · subst h; exact k
  · subst h; exact k
  · exact h.elim

theorem TOk.step (h : TOk Shun Sh Z K O S t) (ap : Apart Sh Z O S) (hg : g = 0 ∨ K g) (hS : S ≤ S') (hO : ∀ x b, x ≠ g → (O' x b ↔ O x b)) (hOg : ∀ b, O' g b → (O g b ∨ S ≤ b) ∧ b < S') (hu : ∀ op ∈ u, OpOk Sh Z (O' g) g op) : TOk Shun Sh Z K O' S' (t ++ u) := by
  have know : ∀ i a, touchAt t i = some a → ∀ op ∈ u, ∀ b, op.act.touch? = some b → ∀ said, a.conflicts said b → Knows t g i := by
    intro i a ha op hop b hb said hc
    obtain ⟨c, hc1, hc2⟩ := (hu op hop).2.1 b hb
    have ha' : onB a.loc c := by rw [hc.1]; exact hc1
    rcases hc2 with hc2 | ⟨hz, hw⟩ | ⟨hs, hp, hsaid⟩
    · rcases (hOg c hc2).1 with ho | ho
      · exact h.own g c ho i a ha ha'
      · have := ha'.low (h.low i a ha)
        omega
    · refine h.shr g hg c hz i a ha ha' ?_
      rcases hc.2.2.1 with x | x
      · exact x
      · rw [hw] at x; cases x
    · obtain ⟨n1, n2⟩ := h.sh c hs i a ha ha'
      rcases hc.2.2.2 with x | x | ⟨_, x, y⟩
      · exact n1 x g hg
      · exact absurd x hp
      · have := hsaid y
        subst this
        exact n2 x
  have old : ∀ i a, touchAt (t ++ u) i = some a → (i < t.size ∧ touchAt t i = some a) ∨ ∃ op ∈ u, op.act.touch? = some a ∧ (t ++ u)[i]? = some op := by
    intro i a ha
    obtain ⟨op, ho, hb⟩ := touch_of ha
    rcases getElem?_append_cases ho with ⟨hi, ho'⟩ | ⟨_, hou⟩
    · exact .inl ⟨hi, by rw [touchAt_of ho']; exact hb⟩
    · exact .inr ⟨op, hou, hb, ho⟩
  have mine : ∀ i op, op ∈ u → (t ++ u)[i]? = some op → Knows (t ++ u) g i := fun i op hop ho => by
    have := knows_own ho
    rwa [(hu op hop).1] at this
  refine ⟨fun said => noRace_append (h.clean said) (fun op hop => (hu op hop).1) fun i a ha op hop b hb hc => know i a ha op hop b hb said hc, fun x b hx i a ha hl => ?_, fun x hx b hz i a ha hl hw => ?_, fun b hs i a ha hl => ?_, fun i a ha => ?_, fun i a ha hm => ?_, fun i x hi hx0 hk hc => ?_, fun op hop a => (Array.mem_append.1 hop).elim (fun x => h.norel op x a) fun x => (hu op x).2.2 a, fun l b hl hb => ?_⟩
  rotate_right
  · obtain ⟨h1, h2, h3⟩ := h.off l b hl hb
    refine ⟨fun x hx => ?_, h2, Nat.lt_of_lt_of_le h3 hS⟩
    by_cases hxg : x = g
    · subst hxg
      rcases (hOg b hx).1 with h4 | h4
      · exact h1 x h4
      · omega
    · exact h1 x ((hO x b hxg).1 hx)
  · rcases old i a ha with ⟨_, ha'⟩ | ⟨op, hop, hb, ho⟩
    · by_cases hxg : x = g
      · subst hxg
        rcases (hOg b hx).1 with h1 | h1
        · exact (h.own x b h1 i a ha' hl).app u
        · have := hl.low (h.low i a ha')
          omega
      · exact (h.own x b ((hO x b hxg).1 hx) i a ha' hl).app u
    · by_cases hxg : x = g
      · subst hxg; exact mine i op hop ho
      · exfalso
        have hxo := (hO x b hxg).1 hx
        obtain ⟨c, hc1, hc2⟩ := (hu op hop).2.1 a hb
        obtain rfl := hl.uniq hc1
        rcases hc2 with hc2 | ⟨hz, _⟩ | ⟨hs, _⟩
        · rcases (hOg b hc2).1 with h1 | h1
          · exact ap.two x g b hxg hxo h1
          · have := ap.lo x b hxo; omega
        · exact ap.shr x b hxo hz
        · exact ap.sh x b hxo hs
  · rcases old i a ha with ⟨_, ha'⟩ | ⟨op, hop, hb, ho⟩
    · exact (h.shr x hx b hz i a ha' hl hw).app u
    · exfalso
      obtain ⟨c, hc1, hc2⟩ := (hu op hop).2.1 a hb
      obtain rfl := hl.uniq hc1
      rcases hc2 with hc2 | ⟨_, hw'⟩ | ⟨hs, _⟩
      · rcases (hOg b hc2).1 with h1 | h1
        · exact ap.shr g b h1 hz
        · have := ap.loZ b hz; omega
      · rw [hw'] at hw; cases hw
      · exact ap.zsh b hz hs
  · rcases old i a ha with ⟨_, ha'⟩ | ⟨op, hop, hb, ho⟩
    · obtain ⟨n1, n2⟩ := h.sh b hs i a ha' hl
      exact ⟨fun e x hx => (n1 e x hx).app u, fun e => (n2 e).app u⟩
    · obtain ⟨c, hc1, hc2⟩ := (hu op hop).2.1 a hb
      obtain rfl := hl.uniq hc1
      rcases hc2 with hc2 | ⟨hz, _⟩ | ⟨_, hp, hsaid⟩
      · exfalso
        rcases (hOg b hc2).1 with h1 | h1
        · exact ap.sh g b h1 hs
        · have := ap.loS b hs; omega
      · exact absurd hs (ap.zsh b hz)
      · exact ⟨fun e => absurd e hp, fun e => by have := hsaid e; subst this; exact mine i op hop ho⟩
  · rcases old i a ha with ⟨_, ha'⟩ | ⟨op, hop, hb, ho⟩
    · exact Loc.low_mono hS (h.low i a ha')
    · obtain ⟨c, hc1, hc2⟩ := (hu op hop).2.1 a hb
      refine hc1.lt ?_
      rcases hc2 with hc2 | ⟨hz, _⟩ | ⟨hs, _⟩
      · exact (hOg c hc2).2
      · exact Nat.lt_of_lt_of_le (ap.loZ c hz) hS
      · exact Nat.lt_of_lt_of_le (ap.loS c hs) hS
  · rcases old i a ha with ⟨hi, ha'⟩ | ⟨op, hop, hb, ho⟩
    · rcases h.known i a ha' hm with h1 | ⟨k, hk, h1⟩ | h1
      · exact .inl (h1.app u)
      · exact .inr (.inl ⟨k, hk, by rw [g?_old hi]; exact h1⟩)
      · exact .inr (.inr h1)
    · rcases hg with rfl | hg
      · exact .inl (mine i op hop ho)
      · exact .inr (.inl ⟨g, hg, by simp [Trace.g?, ho, (hu op hop).1]⟩)
  · unfold Trace.g? at hi
    obtain ⟨op, ho, hox⟩ := Option.map_eq_some_iff.1 hi
    rcases getElem?_append_cases ho with ⟨hlt, ho'⟩ | ⟨_, hou⟩
    · have hc' : t.counts i := (counts_old hlt).1 hc
      obtain ⟨j, hj, hb⟩ := h.over i x (by simp [Trace.g?, ho', hox]) hx0 hk hc'
      exact ⟨j, by
        unfold Trace.g? at hj
        obtain ⟨z, hz, hz'⟩ := Option.map_eq_some_iff.1 hj
        rw [g?_old (lt_size_of_getElem? hz)]
        simp [Trace.g?, hz, hz'], hb_app u hb⟩
    · exfalso
      have := (hu op hou).1
      rcases hg with rfl | hg
      · exact hx0 (hox.symm.trans this)
      · exact hk (hox ▸ this ▸ hg)
end
end Go.Proofs.YtgcbcagaibecbaaGreatDoor.Pool

namespace Go.Proofs.YtgcbcagaibecbaaGreatDoor.Pool
set_option maxRecDepth 20000
open Go Go.Conc Gap
open Go.ConcN (fork_knows)

section
variable {Shun : Loc → Prop} {Sh Z K K' : Nat → Prop} {O O' : Nat → Nat → Prop} {S S' : Nat} {t u : Trace} {g : Nat}

theorem touch_old (hu : ∀ op ∈ u, op.act.touch? = none) {i : Nat} {a : Touch} (ha : touchAt (t ++ u) i = some a) : i < t.size ∧ touchAt t i = some a := by
  obtain ⟨op, ho, hb⟩ := touch_of ha
  rcases getElem?_append_cases ho with ⟨hi, ho'⟩ | ⟨_, hou⟩
  · exact ⟨hi, by rw [touchAt_of ho']; exact hb⟩
  · rw [hu op hou] at hb; cases hb
theorem race_old {said : Bool} (hu : ∀ op ∈ u, op.act.touch? = none) (h : ¬ Race said t) : ¬ Race said (t ++ u) := by
  rintro ⟨i, j, hij, ⟨a, b, ha, hb, hc⟩, h1, h2⟩
  obtain ⟨_, ha'⟩ := touch_old hu (i := i) ha
  obtain ⟨_, hb'⟩ := touch_old hu (i := j) hb
  exact h ⟨i, j, hij, ⟨a, b, ha', hb', hc⟩, fun x => h1 (hb_app u x), fun x => h2 (hb_app u x)⟩
theorem g?_of_old {i x : Nat} (hi : i < t.size) (h : (t ++ u).g? i = some x) : t.g? i = some x := by rw [← g?_old (u := u) hi]; exact h
theorem counts_touch {i : Nat} (h : t.counts i) : ∃ a, touchAt t i = some a ∧ a.loc.isMemory = true ∧ (a.kind ≠ .atomic ∨ t.heard i) := h

theorem TOk.move (h : TOk Shun Sh Z K O S t) (hu : ∀ op ∈ u, op.act.touch? = none ∧ ∀ a, op.act ≠ .mark (.release a)) (hO : ∀ g b, O' g b → ∃ k, O k b ∧ ∀ i, Knows t k i → Knows (t ++ u) g i)
    (hK : ∀ g, K' g → g = 0 ∨ K g ∨ ∀ i, Knows t 0 i → Knows (t ++ u) g i) (hKK : ∀ g, K g → K' g) : TOk Shun Sh Z K' O' S (t ++ u) := by
  have hu' : ∀ op ∈ u, op.act.touch? = none := fun op x => (hu op x).1
  refine ⟨fun said => race_old hu' (h.clean said), fun g b hg i a ha hl => ?_, fun g hg b hz i a ha hl hw => ?_, fun b hs i a ha hl => ?_, fun i a ha => h.low i a (touch_old hu' ha).2, fun i a ha hm => ?_, fun i x hi hx0 hk hc => ?_, fun op hop a => (Array.mem_append.1 hop).elim (fun x => h.norel op x a) fun x => (hu op x).2 a, fun l b hl hb => ?_⟩
  rotate_right
  · obtain ⟨h1, h2, h3⟩ := h.off l b hl hb
    exact ⟨fun x hx => let ⟨k, hk, _⟩ := hO x b hx; h1 k hk, h2, h3⟩
  · obtain ⟨k, hk, hkn⟩ := hO g b hg
    exact hkn i (h.own k b hk i a (touch_old hu' ha).2 hl)
  · have ha' := (touch_old hu' ha).2
    rcases hg with rfl | hg
    · exact (h.shr 0 (.inl rfl) b hz i a ha' hl hw).app u
    · rcases hK g hg with rfl | hg | hg
      · exact (h.shr 0 (.inl rfl) b hz i a ha' hl hw).app u
      · exact (h.shr g (.inr hg) b hz i a ha' hl hw).app u
      · exact hg i (h.shr 0 (.inl rfl) b hz i a ha' hl hw)
  · obtain ⟨n1, n2⟩ := h.sh b hs i a (touch_old hu' ha).2 hl
    refine ⟨fun e g hg => ?_, fun e => (n2 e).app u⟩
    rcases hg with rfl | hg
    · exact (n1 e 0 (.inl rfl)).app u
    · rcases hK g hg with rfl | hg | hg
      · exact (n1 e 0 (.inl rfl)).app u
      · exact (n1 e g (.inr hg)).app u
      · exact hg i (n1 e 0 (.inl rfl))
  · obtain ⟨hi, ha'⟩ := touch_old hu' ha
    rcases h.known i a ha' hm with h1 | ⟨k, hk, h1⟩ | h1
    · exact .inl (h1.app u)
    · exact .inr (.inl ⟨k, hKK k hk, by rw [g?_old hi]; exact h1⟩)
    · exact .inr (.inr h1)
  · obtain ⟨a, ha, _⟩ := counts_touch hc
    obtain ⟨hlt, _⟩ := touch_old hu' ha
    obtain ⟨j, hj, hb⟩ := h.over i x (g?_of_old hlt hi) hx0 (fun hx => hk (hKK x hx)) ((counts_old hlt).1 hc)
    refine ⟨j, ?_, hb_app u hb⟩
    have hj' : j < t.size := by
      unfold Trace.g? at hj
      obtain ⟨z, hz, _⟩ := Option.map_eq_some_iff.1 hj
      exact lt_size_of_getElem? hz
    rw [g?_old hj']
    exact hj

theorem TOk.share {Shun' : Loc → Prop} {Sh' Z' : Nat → Prop} (h : TOk Shun Sh Z K O S t) (hN : ∀ g, ¬ K g) (hS : S ≤ S') (hSh : ∀ b, Sh' b → Sh b ∨ S ≤ b ∨ O 0 b) (hZ : ∀ b, Z' b → Z b ∨ O 0 b) (hO : ∀ g b, O' g b → O g b ∨ S ≤ b) (hSn : ∀ l, Shun l ↔ Shun' l) : TOk Shun' Sh' Z' K O' S' t := by
  refine ⟨h.clean, fun g b hg i a ha hl => ?_, fun g hg b hz i a ha hl hw => ?_, fun b hs i a ha hl => ?_, fun i a ha => Loc.low_mono hS (h.low i a ha), fun i a ha hm => ?_, h.over, h.norel, fun l b hl hb => ?_⟩
  · rcases hO g b hg with h1 | h1
    · exact h.own g b h1 i a ha hl
    · have := hl.low (h.low i a ha); omega
  · have hg0 := hg.resolve_right (hN g)
    subst hg0
    rcases hZ b hz with h1 | h1
    · exact h.shr 0 (.inl rfl) b h1 i a ha hl hw
    · exact h.own 0 b h1 i a ha hl
  · rcases hSh b hs with h1 | h1 | h1
    · exact h.sh b h1 i a ha hl
    · have := hl.low (h.low i a ha); omega
    · exact ⟨fun _ g hg => (hg.resolve_right (hN g)) ▸ h.own 0 b h1 i a ha hl, fun _ => h.own 0 b h1 i a ha hl⟩
  · rcases h.known i a ha hm with h1 | h1 | ⟨h1, h2⟩
    · exact .inl h1
    · exact .inr (.inl h1)
    · exact .inr (.inr ⟨(hSn _).1 h1, h2⟩)
  · obtain ⟨h1, h2, h3⟩ := h.off l b ((hSn l).2 hl) hb
    refine ⟨fun x hx => ?_, fun hz => ?_, Nat.lt_of_lt_of_le h3 hS⟩
    · rcases hO x b hx with h4 | h4
      · exact h1 x h4
      · omega
    · exact (hZ b hz).elim h2 (h1 0)

theorem deaf_flat (hu : ∀ op ∈ u, op.act ≠ .mark .disable ∧ op.act ≠ .mark .enable) (g : Nat) : ∀ k, k ≤ u.size → (t ++ u).deaf g (t.size + k) = Deaf t g
  | 0, _ => deaf_old (Nat.le_refl _)
  | k + 1, hk => by
    have hg : (t ++ u)[t.size + k]? = some u[k] := by rw [Array.getElem?_append_right (by omega)]; simp
    have hm := hu u[k] (Array.getElem_mem _)
    rw [show t.size + (k + 1) = t.size + k + 1 from rfl, deaf_succ hg, deaf_flat hu g k (by omega)]
    unfold deafStep
    split
    · rename_i e; exact absurd e hm.1
    · rename_i e; exact absurd e hm.2
    · rfl
theorem Deaf_flat (hu : ∀ op ∈ u, op.act ≠ .mark .disable ∧ op.act ≠ .mark .enable) (g : Nat) : Deaf (t ++ u) g = Deaf t g := by
  have := deaf_flat (t := t) hu g u.size (Nat.le_refl _)
  unfold Deaf at *
  rw [Array.size_append]
  exact this

theorem meet_knows {a b c s cap : Nat} {x0 x1 x2 x3 : MemOp} (h0 : x0.g = a ∧ x0.act = .send c s) (h1 : x1.g = b ∧ x1.act = .recv c s cap) (h2 : x2.g = a ∧ x2.act = .sendDone c s) (h3 : x3.g = b ∧ x3.act = .recvDone c s) (da : Deaf t a = 0) (db : Deaf t b = 0)
    {i : Nat} (h : Knows t a i) : Knows (t ++ #[x0, x1, x2, x3]) b i := by
  have e0 : (t ++ #[x0, x1, x2, x3])[t.size]? = some x0 := by rw [Array.getElem?_append_right (Nat.le_refl _)]; simp
  have e3 : (t ++ #[x0, x1, x2, x3])[t.size + 3]? = some x3 := by rw [Array.getElem?_append_right (by omega)]; simp
  have hb : HappensBefore (t ++ #[x0, x1, x2, x3]) i t.size := h.hb_new (Nat.le_refl _) e0 h0.1
  have fl : ∀ op ∈ #[x0, x1, x2, x3], op.act ≠ .mark .disable ∧ op.act ≠ .mark .enable := by
    intro op hop
    simp at hop
    rcases hop with rfl | rfl | rfl | rfl
    · rw [h0.2]; simp
    · rw [h1.2]; simp
    · rw [h2.2]; simp
    · rw [h3.2]; simp
  have g0 : (t ++ #[x0, x1, x2, x3]).heard t.size := ⟨a, by simp [Trace.g?, e0, h0.1], by have := deaf_flat (t := t) fl a 0 (Nat.zero_le _); rw [Nat.add_zero] at this; rw [this, da]⟩
  have g3 : (t ++ #[x0, x1, x2, x3]).heard (t.size + 3) := ⟨b, by simp [Trace.g?, e3, h3.1], by rw [deaf_flat (t := t) fl b 3 (by simp), db]⟩
  exact ⟨t.size + 3, x3, e3, h3.1, .inr (hb.trans (.single (.inr ⟨.handOver (c := c) (k := s) (by rw [act?_of e0, h0.2]) (by rw [act?_of e3, h3.2]), g0, g3⟩)))⟩
end

structure Gone (a : Addr) (t : Trace) (k r : Nat) : Prop where
  act : t.act? r = some (.mark (.releaseMerge a))
  g : t.g? r = some k
  heard : t.heard r
  after : ∀ i x, r < i → t.g? i = some k → touchAt t i = some x → onB x.loc a.block ∧ x.kind = .atomic ∧ ¬ t.heard i
section
variable {Shun : Loc → Prop} {Sh Z K : Nat → Prop} {O : Nat → Nat → Prop} {S : Nat} {t u : Trace} {a : Addr} {k r : Nat}
theorem Gone.app (h : Gone a t k r) (hu : ∀ i op, (t ++ u)[i]? = some op → t.size ≤ i → op.g = k → ∀ x, op.act.touch? = some x → onB x.loc a.block ∧ x.kind = .atomic ∧ ¬ (t ++ u).heard i) : Gone a (t ++ u) k r := by
  have hr : r < t.size := lt_of_act? h.act
  refine ⟨by rw [act?_old hr]; exact h.act, by rw [g?_old hr]; exact h.g, (heard_old hr).2 h.heard, fun i x hi hg hx => ?_⟩
  rcases Nat.lt_or_ge i t.size with hlt | hge
  · have := h.after i x hi (g?_of_old hlt hg) (by rw [← touchAt_old (u := u) hlt]; exact hx)
    exact ⟨this.1, this.2.1, fun e => this.2.2 ((heard_old hlt).1 e)⟩
  · obtain ⟨op, ho, hb⟩ := touch_of hx
    refine hu i op ho hge ?_ x hb
    unfold Trace.g? at hg
    rw [ho] at hg
    exact Option.some.inj hg
theorem Gone.other (h : Gone a t k r) (hu : ∀ op ∈ u, op.g ≠ k) : Gone a (t ++ u) k r := h.app fun i op ho hi hk => absurd hk (hu op (by
  rcases getElem?_append_cases ho with ⟨hlt, _⟩ | ⟨_, hou⟩
  · omega
  · exact hou))
theorem Gone.mute (h : Gone a t k r) (hu : ∀ op ∈ u, op.act.touch? = none) : Gone a (t ++ u) k r := h.app fun i op ho hi hk x hx => by
  rcases getElem?_append_cases ho with ⟨hlt, _⟩ | ⟨_, hou⟩
  · omega
  · rw [hu op hou] at hx; cases hx
theorem Gone.new (fn : FuncId) (pos : String) (hd : Deaf t k = 0) : Gone a (t ++ #[{ g := k, fn, pos, act := .mark (.releaseMerge a) }]) k t.size := by
  have e : (t ++ #[({ g := k, fn, pos, act := .mark (.releaseMerge a) } : MemOp)])[t.size]? = some { g := k, fn, pos, act := .mark (.releaseMerge a) } := by rw [Array.getElem?_append_right (Nat.le_refl _)]; simp
  refine ⟨by rw [act?_of e], by simp [Trace.g?, e], ⟨k, by simp [Trace.g?, e], by rw [deaf_old (Nat.le_refl _)]; exact hd⟩, fun i x hi _ hx => ?_⟩
  obtain ⟨op, ho, _⟩ := touch_of hx
  have := lt_size_of_getElem? ho
  simp at this
  omega

theorem TOk.join (h : TOk Shun Sh Z K O S t) (hg : ∀ k, K k → ∃ r, Gone a t k r) (hd : Deaf t 0 = 0) (hoff : (∀ g, ¬ O g a.block) ∧ ¬ Z a.block ∧ a.block < S) (fn : FuncId) (pos : String) :
    TOk (fun l => Shun l ∨ onB l a.block) (fun _ => False) Z (fun _ => False) (fun g b => g = 0 ∧ O 0 b) S (t ++ #[{ g := 0, fn, pos, act := .mark (.acquire a) }]) := by
  have hu : ∀ op ∈ #[({ g := 0, fn, pos, act := .mark (.acquire a) } : MemOp)], op.act.touch? = none := by intro op hop; simp at hop; subst hop; rfl
  have e : (t ++ #[({ g := 0, fn, pos, act := .mark (.acquire a) } : MemOp)])[t.size]? = some { g := 0, fn, pos, act := .mark (.acquire a) } := by rw [Array.getElem?_append_right (Nat.le_refl _)]; simp
  have edge : ∀ k r, Gone a t k r → HappensBefore (t ++ #[({ g := 0, fn, pos, act := .mark (.acquire a) } : MemOp)]) r t.size := fun k r hG => by
    have hr : r < t.size := lt_of_act? hG.act
    refine .single (.inr ⟨.marked (a := a) hr (.inr (by rw [act?_old hr]; exact hG.act)) (by rw [act?_of e]) (fun j _ hj => ?_), (heard_old hr).2 hG.heard, ⟨0, by simp [Trace.g?, e], by rw [deaf_old (Nat.le_refl _)]; exact hd⟩⟩)
    rw [act?_old hj]
    intro hx
    obtain ⟨op, ho, hoa⟩ := Option.map_eq_some_iff.1 hx
    exact h.norel op (mem_of_getElem? ho) a hoa
  have upto : ∀ k r i, Gone a t k r → t.g? i = some k → i ≤ r → HappensBefore (t ++ #[({ g := 0, fn, pos, act := .mark (.acquire a) } : MemOp)]) i t.size := fun k r i hG hi hle => by
    rcases Nat.lt_or_ge i r with hlt | hge
    · have hr : r < t.size := lt_of_act? hG.act
      refine .trans (.single (.inl ⟨hlt, k, by rw [g?_old (by omega)]; exact hi, by rw [g?_old hr]; exact hG.g⟩)) (edge k r hG)
    · obtain rfl : i = r := by omega
      exact edge k i hG
  have q0 : (t ++ #[({ g := 0, fn, pos, act := .mark (.acquire a) } : MemOp)]).g? t.size = some 0 := by simp [Trace.g?, e]
  refine ⟨fun said => race_old hu (h.clean said), fun g b hgb i x hx hl => ?_, fun g hg0 b hz i x hx hl hw => ?_, fun b hs => hs.elim, fun i x hx => h.low i x (touch_old hu hx).2, fun i x hx hm => ?_, fun i g hi hg0 _ hc => ?_, fun op hop b => (Array.mem_append.1 hop).elim (fun x => h.norel op x b) fun x => by simp at x; subst x; simp, fun l b hl hb => ?_⟩
  rotate_right
  · rcases hl with hl | hl
    · obtain ⟨h1, h2, h3⟩ := h.off l b hl hb
      exact ⟨fun x hx => h1 0 hx.2, h2, h3⟩
    · obtain rfl := hl.uniq hb
      exact ⟨fun x hx => hoff.1 0 hx.2, hoff.2⟩
  · obtain ⟨rfl, hb⟩ := hgb
    exact (h.own 0 b hb i x (touch_old hu hx).2 hl).app _
  · have := hg0.resolve_right id
    subst this
    exact (h.shr 0 (.inl rfl) b hz i x (touch_old hu hx).2 hl hw).app _
  · obtain ⟨hlt, hx'⟩ := touch_old hu hx
    rcases h.known i x hx' hm with h1 | ⟨k, hk, h1⟩ | ⟨h1, h2⟩
    · exact .inl (h1.app _)
    · obtain ⟨r, hG⟩ := hg k hk
      rcases Nat.lt_or_ge r i with hri | hri
      · have := hG.after i x hri h1 hx'
        exact .inr (.inr ⟨.inr this.1, this.2.1⟩)
      · exact .inl ⟨t.size, _, e, rfl, .inr (upto k r i hG h1 hri)⟩
    · exact .inr (.inr ⟨.inl h1, h2⟩)
  · obtain ⟨x, hx, _, hx3⟩ := counts_touch hc
    obtain ⟨hlt, hx'⟩ := touch_old hu hx
    have hi' := g?_of_old hlt hi
    by_cases hk : K g
    · obtain ⟨r, hG⟩ := hg g hk
      rcases Nat.lt_or_ge r i with hri | hri
      · exfalso
        have := hG.after i x hri hi' hx'
        rcases hx3 with h1 | h1
        · exact h1 this.2.1
        · exact this.2.2 ((heard_old hlt).1 h1)
      · exact ⟨t.size, q0, upto g r i hG hi' hri⟩
    · obtain ⟨j, hj, hb⟩ := h.over i g hi' hg0 hk ((counts_old hlt).1 hc)
      refine ⟨j, ?_, hb_app _ hb⟩
      have hj' : j < t.size := by
        unfold Trace.g? at hj
        obtain ⟨z, hz, _⟩ := Option.map_eq_some_iff.1 hj
        exact lt_size_of_getElem? hz
      rw [g?_old hj']
      exact hj
end
end Go.Proofs.YtgcbcagaibecbaaGreatDoor.Pool

namespace Go.Proofs.YtgcbcagaibecbaaGreatDoor.Pool
set_option maxRecDepth 20000
open Go Go.Conc

section
variable {P : Program} {gs : Array Goroutine} {w w₁ : World} {sl : Option (Nat × Nat)} {i : Nat} {g g₂ : Goroutine} {es : Array Event} {cases : Array CommCase} {shape : CommShape}

theorem choose_select (n : Nat) (hn : 0 < n) (w : World) : ∃ a d, a < n ∧ (choose (.select n)).run P w = .ok a (w.at d) := by
  by_cases hf : (Question.select n).forced = true
  · exact ⟨0, w.drawn, hn, by simp only [choose, Sem.run, hf, if_true]; rfl⟩
  · exact ⟨_, w.drawn + 1, Nat.mod_lt _ hn, by simp only [choose, Sem.run, hf, Bool.false_eq_true, if_false]; rfl⟩
theorem choose_extern (s : String) (n : Nat) (hn : 0 < n) (w : World) : ∃ a d, a < n ∧ (choose (.extern s n)).run P w = .ok a (w.at d) := by
  by_cases hf : (Question.extern s n).forced = true
  · exact ⟨0, w.drawn, hn, by simp only [choose, Sem.run, hf, if_true]; rfl⟩
  · refine ⟨_, w.drawn + 1, ?_, by simp only [choose, Sem.run, hf, Bool.false_eq_true, if_false]; rfl⟩
    simp only [Question.cut]
    rw [if_neg (by omega)]
    exact Nat.mod_lt _ hn

theorem offers_of {h : Goroutine} {r : Nat} {send : Bool} {k : Nat} (hk : k ∈ offersAt h r send) : h.status = .blocked ∧ ∃ cs sh cc, h.offers = some (cs, sh) ∧ cs[k]? = some cc ∧ cc.send.isSome = send ∧ cc.chan = .chan (some r) := by
  unfold offersAt at hk
  split at hk
  · rename_i cs sh hs ho
    refine ⟨hs, cs, sh, ?_⟩
    simp only [List.mem_map, Prod.exists, List.mem_filter, Bool.and_eq_true, beq_iff_eq] at hk
    obtain ⟨cc, k', ⟨hm, h1, h2⟩, rfl⟩ := hk
    refine ⟨cc, ho, mem_of_zipIdx hm, h1, ?_⟩
    split at h2
    · rename_i r' e
      rw [e, eq_of_beq h2]
    · cases h2
  · cases hk
theorem mem_offers {h : Goroutine} {cs : Array CommCase} {sh : CommShape} {k r : Nat} {cc : CommCase} (hs : h.status = .blocked) (ho : h.offers = some (cs, sh)) (hk : cs[k]? = some cc) (hc : cc.chan = .chan (some r)) : k ∈ offersAt h r cc.send.isSome := by
  unfold offersAt
  rw [hs, ho]
  simp only [List.mem_map, Prod.exists, List.mem_filter, Bool.and_eq_true, beq_iff_eq]
  refine ⟨cc, k, ⟨Array.mem_toList_iff.2 (Array.mem_zipIdx_iff_getElem?.2 (by simpa using hk)), rfl, ?_⟩, rfl⟩
  rw [hc]
  simp

def Opened (w : World) (cc : CommCase) : Prop := cc.chan = .chan none ∨ ∃ c m tm, cc.chan = .chan (some c) ∧ w.heap[c]? = some (.chan 0 #[] false m m tm)
theorem opened_made {cc : CommCase} (h : Opened w cc) : illMade w cc = false := by
  unfold illMade
  rcases h with h | ⟨c, m, tm, h, hc⟩
  · rw [h]
  · rw [h]; simp [hc]
theorem ways_opened {cc : CommCase} {c m : Nat} {tm : Bool} (h : cc.chan = .chan (some c)) (hc : w.heap[c]? = some (.chan 0 #[] false m m tm)) : ways w gs cc = (partners gs c cc.send.isNone).map fun (h, k) => Way.partner h k := by
  unfold ways
  rw [h]
  simp only [hc]
  cases hs : cc.send with
  | none =>
    simp only [Option.isNone_none]
    cases partners gs c true <;> simp
  | some v =>
    simp only [Option.isNone_some]
    cases partners gs c false <;> simp
theorem ways_shut {cc : CommCase} (h : cc.chan = .chan none) : ways w gs cc = [] := by unfold ways; rw [h]

structure Met (P : Program) (gs : Array Goroutine) (w₁ : World) (i : Nat) (g₂ : Goroutine) (cases : Array CommCase) (shape : CommShape) (gs' : Array Goroutine) (w' : World) (u : Trace) : Prop where
  ex : ∃ (k : Nat) (cc : CommCase) (c m : Nat) (tm : Bool) (j : Nat) (gj : Goroutine) (cs' : Array CommCase) (sh' : CommShape) (k' : Nat) (cc' : CommCase) (d : Nat) (x0 x1 x2 x3 : MemOp),
    cases[k]? = some cc ∧ cc.chan = .chan (some c) ∧ w₁.heap[c]? = some (.chan 0 #[] false m m tm) ∧ j ≠ i ∧ gs[j]? = some gj ∧ gj.status = .blocked ∧ gj.offers = some (cs', sh') ∧ cs'[k']? = some cc' ∧ cc'.chan = .chan (some c) ∧ cc'.send.isSome = cc.send.isNone ∧
    gs' = (gs.setIfInBounds j (gj.finishComm P cs' sh' k' (cc.send.getD undef) cc'.send.isNone)).setIfInBounds i (g₂.finishComm P cases shape k (cc'.send.getD undef) cc.send.isNone) ∧
    w' = (w₁.at d).setChan c 0 #[] false (m + 1) (m + 1) tm ∧ u = #[x0, x1, x2, x3] ∧
    (x0.g = (if cc.send.isSome then i else j) ∧ x0.act = .send c m) ∧ (x1.g = (if cc.send.isSome then j else i) ∧ x1.act = .recv c m 0) ∧ (x2.g = (if cc.send.isSome then i else j) ∧ x2.act = .sendDone c m) ∧ (x3.g = (if cc.send.isSome then j else i) ∧ x3.act = .recvDone c m)

theorem comm_open (hi : gs[i]? = some g) (h : stepG P (i == 0) g w = .comm g₂ cases true shape w₁ es) (hc : ∀ cc ∈ cases, Opened w₁ cc) :
    ((∀ cc ∈ cases, ∀ c, cc.chan = .chan (some c) → ∀ j gj, j ≠ i → gs[j]? = some gj → offersAt gj c cc.send.isNone = []) ∧
      runT P (crowd gs w sl) i = (.next (crowd (gs.setIfInBounds i (parked g₂ cases shape)) w₁ sl), MemOp.ofEvents i g.frame.fn g.frame.place es)) ∨
    ∃ gs' w' u, Met P gs w₁ i g₂ cases shape gs' w' u ∧ runT P (crowd gs w sl) i = (.next (crowd gs' w' sl), MemOp.ofEvents i g.frame.fn g.frame.place es ++ u) := by
  have hill : cases.any (illMade w₁) = false := any_ill fun cc hcc => opened_made (hc cc hcc)
  by_cases hr : ∀ cc ∈ cases, ways w₁ (gs.setIfInBounds i ph) cc = []
  · refine .inl ⟨fun cc hcc c hch j gj hji hj => ?_, crowd_waits hi h fun cc hcc => ⟨opened_made (hc cc hcc), hr cc hcc⟩⟩
    rcases hc cc hcc with h1 | ⟨c', m, tm, h1, h2⟩
    · rw [h1] at hch; cases hch
    · rw [h1] at hch
      injection hch with hch
      injection hch with hch
      subst hch
      have := hr cc hcc
      rw [ways_opened h1 h2, List.map_eq_nil_iff] at this
      apply List.eq_nil_iff_forall_not_mem.2
      intro k hk
      have : (j, k) ∈ partners (gs.setIfInBounds i ph) c' cc.send.isNone := mem_partners.2 ⟨gj, stand_get hji hj, hk⟩
      rw [‹partners _ _ _ = []›] at this
      cases this
  · refine .inr ?_
    rw [runT_crowd_comm hi h]
    generalize hready : ((cases.zipIdx.toList.map fun (c, k) => (k, c, ways w₁ (gs.setIfInBounds i ph) c)).filter fun (_, _, ws) => !ws.isEmpty) = ready
    have hpos : 0 < ready.length := by
      rw [List.length_pos_iff]
      intro e
      refine hr fun cc hcc => ?_
      obtain ⟨k, hk, rfl⟩ := Array.mem_iff_getElem.1 hcc
      rw [e, List.filter_eq_nil_iff] at hready
      have := hready (k, cases[k], ways w₁ (gs.setIfInBounds i ph) cases[k]) (List.mem_map.2 ⟨(cases[k], k), Array.mem_toList_iff.2 (Array.mem_zipIdx_iff_getElem?.2 (by simp)), rfl⟩)
      simpa using this
    obtain ⟨a, d, ha, hda⟩ := choose_select (P := P) ready.length hpos w₁
    obtain ⟨⟨k, cc, ws⟩, hkc⟩ : ∃ p, ready[a]? = some p := ⟨ready[a], List.getElem?_eq_getElem ha⟩
    have hmem := List.mem_of_getElem? hkc
    rw [← hready, List.mem_filter, List.mem_map] at hmem
    obtain ⟨⟨⟨cc0, k0⟩, hz, he⟩, hws⟩ := hmem
    injection he with e1 e2
    injection e2 with e2 e3
    subst e1 e2
    have hk := mem_of_zipIdx hz
    have hwsp : 0 < ws.length := by
      rw [List.length_pos_iff]
      simpa using hws
    rcases hc cc0 (Array.mem_of_getElem? hk) with h1 | ⟨c, m, tm, h1, h2⟩
    · rw [ways_shut h1] at e3
      subst e3
      cases hwsp
    rw [ways_opened h1 h2] at e3
    obtain ⟨b, d', hb, hdb⟩ := choose_extern (P := P) "which waiting goroutine is the partner" ws.length hwsp (w₁.at d)
    obtain ⟨⟨j, k'⟩, hp⟩ : ∃ p, (partners (gs.setIfInBounds i ph) c cc0.send.isNone)[b]? = some p := by
      have : b < (partners (gs.setIfInBounds i ph) c cc0.send.isNone).length := by rw [← e3, List.length_map] at hb; exact hb
      exact ⟨_, List.getElem?_eq_getElem this⟩
    have hway : ws.getD b .closed = .partner j k' := by rw [← e3]; exact getD_map_partner _ b (j, k') hp
    obtain ⟨gj, hgj, hoff⟩ := mem_partners.1 (List.mem_of_getElem? hp)
    obtain ⟨hst, cs', sh', cc', ho, hk', hsend, hch⟩ := offers_of hoff
    have hji : j ≠ i ∧ gs[j]? = some gj := by
      rcases getElem?_stand gs i j gj hgj with ⟨_, rfl⟩ | x
      · cases hst
      · exact x
    have hgd : ready.getD a (0, default, []) = (k0, cc0, ws) := by rw [List.getD_eq_getElem?_getD, hkc]; rfl
    have hfp := finishPartner_at P (gs.setIfInBounds i ph) hgj ho k'
    rw [hk'] at hfp
    simp only [Option.map_some, Option.getD_some] at hfp
    have hov : offeredValue (gs.setIfInBounds i ph) j k' = cc'.send.getD undef := by simp [offeredValue, hgj, ho, hk']
    have hgx : (gs.setIfInBounds i ph).getD j default = gj := by rw [Array.getD_eq_getD_getElem?, hgj]; rfl
    have hne : ready.isEmpty = false := by
      cases ready with
      | nil => cases hpos
      | cons _ _ => rfl
    have hpick : ((choose (.select ready.length) >>= fun a => match ready.getD a (0, default, []) with
        | (k, c, ws) => choose (.extern "which waiting goroutine is the partner" ws.length) >>= fun b => pure (k, c, ws.getD b .closed) : Sem (Nat × CommCase × Go.Way))).run P w₁ = .ok (k0, cc0, .partner j k') (w₁.at d') := by
      rw [Sem.run_bind, hda]
      show Sem.run P (choose (.extern "which waiting goroutine is the partner" (ready.getD a (0, default, [])).2.2.length) >>= fun b => pure ((ready.getD a (0, default, [])).1, (ready.getD a (0, default, [])).2.1, (ready.getD a (0, default, [])).2.2.getD b .closed)) (w₁.at d) = _
      rw [hgd]
      show Sem.run P (choose (.extern "which waiting goroutine is the partner" ws.length) >>= fun b => pure (k0, cc0, ws.getD b .closed)) (w₁.at d) = _
      rw [Sem.run_bind, hdb]
      show Sem.run P (pure (k0, cc0, ws.getD b .closed)) ((w₁.at d).at d') = _
      rw [hway]
      rfl
    have hc' : (w₁.at d').heap[c]? = some (.chan 0 #[] false m m tm) := h2
    unfold communicate
    cases hs : cc0.send with
    | some v =>
      rw [hs] at hsend
      simp only [Option.isNone_some] at hsend
      have hs' : cc'.send = none := by cases h : cc'.send <;> simp_all
      refine ⟨_, _, _, ⟨k0, cc0, c, m, tm, j, gj, cs', sh', k', cc', d', { g := i, fn := g₂.frame.fn, pos := g₂.frame.place, act := .send c m }, { g := j, fn := gj.frame.fn, pos := gj.frame.place, act := .recv c m 0 }, { g := i, fn := g₂.frame.fn, pos := g₂.frame.place, act := .sendDone c m }, { g := j, fn := gj.frame.fn, pos := gj.frame.place, act := .recvDone c m }, hk, h1, h2, hji.1, hji.2, hst, ho, hk', hch, by rw [hs, hsend]; rfl, rfl, rfl, rfl, ⟨?_, ?_⟩, ⟨?_, ?_⟩, ⟨?_, ?_⟩, ⟨?_, ?_⟩⟩, ?_⟩
      rotate_right
      · simp only [hready, hne, Bool.false_eq_true, if_false]
        rw [hpick]
        simp only [h1, hc', hs, hfp, set_stand2, hgx, hs', Option.getD_some, Option.isNone_none, Option.getD_none, Option.isNone_some]
        rw [if_neg]
        · rfl
        · rw [Bool.not_eq_true]; exact hill
      all_goals simp [hs]
    | none =>
      rw [hs] at hsend
      simp only [Option.isNone_none] at hsend
      obtain ⟨v, hs'⟩ := Option.isSome_iff_exists.1 hsend
      refine ⟨_, _, _, ⟨k0, cc0, c, m, tm, j, gj, cs', sh', k', cc', d', { g := j, fn := gj.frame.fn, pos := gj.frame.place, act := .send c m }, { g := i, fn := g₂.frame.fn, pos := g₂.frame.place, act := .recv c m 0 }, { g := j, fn := gj.frame.fn, pos := gj.frame.place, act := .sendDone c m }, { g := i, fn := g₂.frame.fn, pos := g₂.frame.place, act := .recvDone c m }, hk, h1, h2, hji.1, hji.2, hst, ho, hk', hch, by rw [hs, hsend]; rfl, rfl, rfl, rfl, ⟨?_, ?_⟩, ⟨?_, ?_⟩, ⟨?_, ?_⟩, ⟨?_, ?_⟩⟩, ?_⟩
      rotate_right
      · simp only [hready, hne, Bool.false_eq_true, if_false]
        rw [hpick]
        simp only [h1, hc', hs, hfp, set_stand2, hgx, hov, hs', Option.getD_some, Option.isNone_none, Option.getD_none, Option.isNone_some]
        rw [if_neg]
        · rfl
        · rw [Bool.not_eq_true]; exact hill
      all_goals simp [hs]
end
end Go.Proofs.YtgcbcagaibecbaaGreatDoor.Pool

namespace Go.Proofs.YtgcbcagaibecbaaGreatDoor.Pool
set_option maxRecDepth 20000
open Go Go.Conc Gap
open Go.ConcN (upd upd_same upd_ne WgLive)

inductive Rk where
  | leaf
  | node (f : World → Rk)
def Rk.Sub (a b : Rk) : Prop := ∃ f w, b = .node f ∧ a = f w
theorem Rk.wf : WellFounded Rk.Sub := ⟨fun a => by
  induction a with
  | leaf => exact ⟨_, fun y ⟨f, w, h, _⟩ => by cases h⟩
  | node f ih => exact ⟨_, fun y ⟨g, w, h, e⟩ => by cases h; subst e; exact ih w⟩⟩
def Rk.succ (r : Rk) : Rk := .node fun _ => r
def Rk.nat : Nat → Rk
  | 0 => .leaf
  | n + 1 => .succ (.nat n)
def Rk.up : Rk → Rk
  | .leaf => .node fun _ => .leaf
  | .node f => .node fun w => (f w).up
theorem Rk.up_sub {a b : Rk} (h : Rk.Sub a b) : Rk.Sub a.up b.up := by
  obtain ⟨f, w, rfl, rfl⟩ := h
  exact ⟨fun w => (f w).up, w, rfl, rfl⟩
theorem Rk.up_pos (r : Rk) : ∃ r', Rk.Sub r' r.up := by
  cases r with
  | leaf => exact ⟨.leaf, fun _ => .leaf, default, rfl, rfl⟩
  | node f => exact ⟨_, fun w => (f w).up, default, rfl, rfl⟩
theorem Rk.sub_succ (r : Rk) : Rk.Sub r r.succ := ⟨_, default, rfl, rfl⟩
theorem Rk.sub_node (f : World → Rk) (w : World) : Rk.Sub (f w) (.node f) := ⟨f, w, rfl, rfl⟩
theorem Rk.sub_nat (n : Nat) : Rk.Sub (.nat n) (.nat (n + 1)) := Rk.sub_succ _

def Dec (n : Nat) (f g : Nat → Rk) : Prop := ∃ i, i < n ∧ Rk.Sub (f i) (g i) ∧ ∀ j, j ≠ i → f j = g j
theorem Dec.wf : ∀ n, WellFounded (Dec n)
  | 0 => ⟨fun f => ⟨_, fun g ⟨i, hi, _⟩ => by omega⟩⟩
  | n + 1 => by
    have key : ∀ r : Rk, ∀ f : Nat → Rk, f n = r → Acc (Dec (n + 1)) f := by
      intro r
      induction r using Rk.wf.induction with
      | _ r ihr =>
        intro f
        induction f using (Dec.wf n).induction with
        | _ f ihf =>
          intro hf
          refine ⟨_, fun g ⟨i, hi, hs, ho⟩ => ?_⟩
          by_cases hin : i = n
          · subst hin
            exact ihr (g i) (hf ▸ hs) g rfl
          · exact ihf g ⟨i, by omega, hs, ho⟩ ((ho n (Ne.symm hin)).trans hf)
    exact ⟨fun f => key (f n) f rfl⟩
theorem Dec.of {n i : Nat} {ρ : Nat → Rk} {r : Rk} (hi : i < n) (hr : Rk.Sub r (ρ i)) : Dec n (upd ρ i r) ρ := ⟨i, hi, by rw [upd_same]; exact hr, fun j hj => upd_ne _ _ hj⟩

abbrev Way0 := @Gap.Way noLeaps
def RWay (P : Program) (main : Bool) (Z : Nat → Prop) (Stop : (Nat → Prop) → Goroutine → World → Prop) : Rk → (Nat → Prop) → Goroutine → World → Prop
  | .leaf, O, g, W => ∀ W1, Rely O Z W W1 → Stop O g W1
  | .node f, O, g, W => (∀ W1, Rely O Z W W1 → Stop O g W1) ∨ (g.status = .running ∧ ∀ W1, Rely O Z W W1 → ∃ g' W' es, stepG P main g W1 = .go g' W' es ∧ Guar O Z W1 W' es ∧ RWay P main Z Stop (f W1) (grow O W1 W') g' W')
section
variable {P : Program} {main : Bool} {Z : Nat → Prop} {Stop : (Nat → Prop) → Goroutine → World → Prop} {O : Nat → Prop} {g : Goroutine} {W W1 : World}
open Classical in
theorem ranked (h : Way0 P main Z Stop O g W) : ∃ r, RWay P main Z Stop r O g W := by
  induction h with
  | stop h => exact ⟨.leaf, h⟩
  | @step O g W hs hg hk ih =>
    have key : ∀ W1, ∃ r, Rely O Z W W1 → ∃ g' W' es, stepG P main g W1 = .go g' W' es ∧ Guar O Z W1 W' es ∧ RWay P main Z Stop r (grow O W1 W') g' W' := fun W1 => by
      by_cases h1 : Rely O Z W W1
      · obtain ⟨g', W', es, e, hgu⟩ := hg W1 h1
        obtain ⟨r, hr⟩ := ih W1 g' W' es h1 e
        exact ⟨r, fun _ => ⟨g', W', es, e, hgu, hr⟩⟩
      · exact ⟨.leaf, fun x => absurd x h1⟩
    exact ⟨.node fun W1 => (key W1).choose, .inr ⟨hs, fun W1 h1 => (key W1).choose_spec h1⟩⟩
  | leap T _ h => exact (h _ (.refl _)).elim
theorem RWay.rely {r : Rk} (h : RWay P main Z Stop r O g W) (hr : Rely O Z W W1) : RWay P main Z Stop r O g W1 := by
  cases r with
  | leaf => exact fun W2 h2 => h W2 (hr.trans h2)
  | node f => exact h.imp (fun h W2 h2 => h W2 (hr.trans h2)) fun ⟨hs, h⟩ => ⟨hs, fun W2 h2 => h W2 (hr.trans h2)⟩
theorem RWay.cases {r : Rk} (h : RWay P main Z Stop r O g W) : (∀ W1, Rely O Z W W1 → Stop O g W1) ∨ (g.status = .running ∧ ∀ W1, Rely O Z W W1 → ∃ g' W' es r', stepG P main g W1 = .go g' W' es ∧ Guar O Z W1 W' es ∧ Rk.Sub r' r ∧ RWay P main Z Stop r' (grow O W1 W') g' W') := by
  cases r with
  | leaf => exact .inl h
  | node f => exact h.imp id fun ⟨hs, h⟩ => ⟨hs, fun W1 h1 => let ⟨g', W', es, e1, e2, e3⟩ := h W1 h1; ⟨g', W', es, _, e1, e2, Rk.sub_node f W1, e3⟩⟩
theorem rely_at (W : World) (d : Nat) : Rely O Z W (W.at d) := ⟨rfl, rfl, rfl, Nat.le_refl _, fun _ _ => rfl⟩
end

structure Oth (ty : TypeId) (Wg : Nat) (O Z : Nat → Prop) (w w1 : World) : Prop where
  rel : Rely O Z w w1
  live : WgLive ty Wg w → WgLive ty Wg w1
theorem Oth.at {ty : TypeId} {Wg : Nat} {O Z : Nat → Prop} (w : World) (d : Nat) : Oth ty Wg O Z w (w.at d) := ⟨rely_at w d, fun h => h⟩

structure Fine (Sh Z O O' : Nat → Prop) (g : Nat) (W W' : World) (es : Array Event) : Prop where
  os : W'.os = W.os
  tape : W'.tape = W.tape
  output : W'.output = W.output
  size : W.heap.size ≤ W'.heap.size
  keep : ∀ b, b < W.heap.size → ¬ O b → ¬ Sh b → W'.heap[b]? = W.heap[b]?
  own : ∀ b, O' b → (O b ∨ W.heap.size ≤ b) ∧ b < W'.heap.size
  evs : ∀ e ∈ es, (∀ b, (MemAct.ofEvent e).touch? = some b → TouchOk Sh Z O' g b) ∧ ∀ a, MemAct.ofEvent e ≠ .mark (.release a)

theorem touch_of_evOk {O Z Sh : Nat → Prop} {g : Nat} {e : Event} (h : EvOk O Z e) : (∀ b, (MemAct.ofEvent e).touch? = some b → TouchOk Sh Z O g b) ∧ (∀ a, MemAct.ofEvent e ≠ .mark (.release a)) ∧ e.loc ≠ .mark .disable ∧ e.loc ≠ .mark .enable := by
  obtain ⟨loc, wr, sy⟩ := e
  unfold EvOk at h
  cases loc with
  | cell a =>
    simp only at h
    obtain ⟨rfl, h⟩ := h
    refine ⟨fun b hb => ?_, by simp [MemAct.ofEvent], by simp, by simp⟩
    simp only [MemAct.ofEvent, MemAct.touch?, Option.some.injEq] at hb
    subst hb
    exact ⟨a.block, rfl, h.imp id fun h => .inl h⟩
  | obj r =>
    simp only at h
    refine ⟨fun b hb => ?_, ?_, by simp, by simp⟩
    · cases wr <;> cases sy <;> simp [MemAct.ofEvent, MemAct.touch?] at hb h
      all_goals (subst hb; exact ⟨r, rfl, .inl h⟩)
    · cases wr <;> cases sy <;> simp [MemAct.ofEvent]
  | mark m =>
    cases m with
    | noRoom => exact ⟨fun b hb => by simp [MemAct.ofEvent, MemAct.touch?] at hb, by simp [MemAct.ofEvent], by simp, by simp⟩
    | extern f => exact ⟨fun b hb => by simp [MemAct.ofEvent, MemAct.touch?] at hb, by simp [MemAct.ofEvent], by simp, by simp⟩
    | _ => exact h.elim
  | _ => exact h.elim
theorem flat_evOk {O Z : Nat → Prop} {es : Array Event} (h : ∀ e ∈ es, EvOk O Z e) (d : Nat) : deafBehind d es = d := deafBehind_still (fun e he => (touch_of_evOk (Sh := fun _ => False) (g := 0) (h e he)).2.2) d
theorem Fine.of {Sh Z O : Nat → Prop} {g : Nat} {W W' : World} {es : Array Event} (h : Guar O Z W W' es) (hO : ∀ b, O b → b < W.heap.size) : Fine Sh Z O (grow O W W') g W W' es :=
  ⟨h.os, h.tape, h.output, h.size, fun b hb hn _ => h.keep b hb hn, fun b hb => hb.elim (fun x => ⟨.inl x, Nat.lt_of_lt_of_le (hO b x) h.size⟩) fun x => ⟨.inr x.1, x.2⟩, fun e he => ⟨(touch_of_evOk (h.evs e he)).1, (touch_of_evOk (Sh := Sh) (g := g) (h.evs e he)).2.1⟩⟩

structure Core (Shun : Loc → Prop) (Sh Z K : Nat → Prop) (Sit : Nat → Nat → (Nat → Prop) → Goroutine → World → Prop) (gs : Array Goroutine) (W : World) (t : Trace) (O : Nat → Nat → Prop) : Prop where
  sit : ∀ j g, gs[j]? = some g → Sit j (Deaf t j) (O j) g W
  above : ∀ j, gs.size ≤ j → Deaf t j = 0
  tok : TOk Shun Sh Z K O W.heap.size t
  apart : Apart Sh Z O W.heap.size

section
variable {P : Program} {Shun : Loc → Prop} {Sh Z K : Nat → Prop} {Sit Sit' : Nat → Nat → (Nat → Prop) → Goroutine → World → Prop} {gs : Array Goroutine} {W W' : World} {t u : Trace} {O : Nat → Nat → Prop} {O' : Nat → Prop} {i : Nat} {g g' : Goroutine} {es : Array Event}

theorem Core.at (h : Core Shun Sh Z K Sit gs W t O) (d : Nat) (hs : ∀ j x, gs[j]? = some x → Sit j (Deaf t j) (O j) x W → Sit' j (Deaf t j) (O j) x (W.at d)) : Core Shun Sh Z K Sit' gs (W.at d) t O :=
  ⟨fun j x hj => hs j x hj (h.sit j x hj), h.above, h.tok, h.apart⟩

theorem Apart.step (ap : Apart Sh Z O W.heap.size) (hS : W.heap.size ≤ W'.heap.size) (hO : ∀ b, O' b → (O i b ∨ W.heap.size ≤ b) ∧ b < W'.heap.size) : Apart Sh Z (upd O i O') W'.heap.size := by
  have low : ∀ g b, g ≠ i → upd O i O' g b → O g b := fun g b hg h => by rwa [upd_ne _ _ hg] at h
  refine ⟨fun g h b hgh hg hh => ?_, fun g b hg => ?_, fun g b hg => ?_, ap.zsh, fun g b hg => ?_, fun b hb => Nat.lt_of_lt_of_le (ap.loZ b hb) hS, fun b hb => Nat.lt_of_lt_of_le (ap.loS b hb) hS⟩
  · by_cases hgi : g = i
    · subst hgi
      rw [upd_same] at hg
      have hh' := low h b (Ne.symm hgh) hh
      rcases (hO b hg).1 with x | x
      · exact ap.two g h b hgh x hh'
      · have := ap.lo h b hh'; omega
    · have hg' := low g b hgi hg
      by_cases hhi : h = i
      · subst hhi
        rw [upd_same] at hh
        rcases (hO b hh).1 with x | x
        · exact ap.two g h b hgh hg' x
        · have := ap.lo g b hg'; omega
      · exact ap.two g h b hgh hg' (low h b hhi hh)
  · by_cases hgi : g = i
    · subst hgi
      rw [upd_same] at hg
      rcases (hO b hg).1 with x | x
      · exact ap.shr g b x
      · intro hz; have := ap.loZ b hz; omega
    · exact ap.shr g b (low g b hgi hg)
  · by_cases hgi : g = i
    · subst hgi
      rw [upd_same] at hg
      rcases (hO b hg).1 with x | x
      · exact ap.sh g b x
      · intro hz; have := ap.loS b hz; omega
    · exact ap.sh g b (low g b hgi hg)
  · by_cases hgi : g = i
    · subst hgi
      rw [upd_same] at hg
      exact (hO b hg).2
    · exact Nat.lt_of_lt_of_le (ap.lo g b (low g b hgi hg)) hS

theorem Fine.rely (ap : Apart Sh Z O W.heap.size) (hf : Fine Sh Z (O i) O' i W W' es) {j : Nat} (hj : j ≠ i) : Rely (O j) Z W W' :=
  ⟨hf.os, hf.tape, hf.output, hf.size, fun b hb => by
    rcases hb with hb | hb
    · exact hf.keep b (ap.lo j b hb) (ap.two j i b hj hb) (ap.sh j b hb)
    · exact hf.keep b (ap.loZ b hb) (fun x => ap.shr i b x hb) (ap.zsh b hb)⟩

theorem Core.own (h : Core Shun Sh Z K Sit gs W t O) (hi : gs[i]? = some g) (hg : i = 0 ∨ K i) (hf : Fine Sh Z (O i) O' i W W' es)
    (hw : ∀ j x, j ≠ i → gs[j]? = some x → Sit j (Deaf t j) (O j) x W → Rely (O j) Z W W' → Sit' j (Deaf t j) (O j) (woken P g g' W' x) W') (hs : Sit' i (deafBehind (Deaf t i) es) O' g' W') (fn : FuncId) (pos : String) :
    Core Shun Sh Z K Sit' ((gs.map (woken P g g' W')).setIfInBounds i g') W' (t ++ MemOp.ofEvents i fn pos es) (upd O i O') := by
  have hlt : i < gs.size := (Array.getElem?_eq_some_iff.1 hi).1
  have hu : ∀ op ∈ MemOp.ofEvents i fn pos es, op.g = i := fun op hop => by obtain ⟨e, _, rfl⟩ := Go.Conc.mem_ofEvents hop; rfl
  refine ⟨fun j x hj => ?_, fun j hj => ?_, ?_, h.apart.step hf.size hf.own⟩
  · by_cases hji : i = j
    · subst hji
      rw [Array.getElem?_setIfInBounds_self_of_lt (by simpa using hlt)] at hj
      obtain rfl := Option.some.inj hj
      rw [Deaf_own, upd_same]
      exact hs
    · rw [Array.getElem?_setIfInBounds_ne hji, Array.getElem?_map] at hj
      obtain ⟨y, hy, rfl⟩ := Option.map_eq_some_iff.1 hj
      rw [Deaf_other t hji _ hu, upd_ne _ _ (Ne.symm hji)]
      exact hw j y (Ne.symm hji) hy (h.sit j y hy) (hf.rely h.apart (Ne.symm hji))
  · simp only [Array.size_setIfInBounds, Array.size_map] at hj
    rw [Deaf_other t (by omega) _ hu]
    exact h.above j hj
  · refine h.tok.step h.apart hg hf.size (fun x b hx => by rw [upd_ne _ _ hx]) (fun b hb => by rw [upd_same] at hb; exact hf.own b hb) fun op hop => ?_
    obtain ⟨e, he, rfl⟩ := Go.Conc.mem_ofEvents hop
    exact ⟨rfl, fun b hb => by rw [upd_same]; exact (hf.evs e he).1 b hb, (hf.evs e he).2⟩

theorem Core.slip (h : Core Shun Sh Z K Sit gs W t O) (hi : gs[i]? = some g) (hm : ∀ e ∈ es, e.mute = true)
    (hw : ∀ j x, j ≠ i → gs[j]? = some x → Sit j (Deaf t j) (O j) x W → Sit' j (Deaf t j) (O j) (woken P g g' W x) W) (hs : Sit' i (deafBehind (Deaf t i) es) (O i) g' W) (fn : FuncId) (pos : String) :
    Core Shun Sh Z K Sit' ((gs.map (woken P g g' W)).setIfInBounds i g') W (t ++ MemOp.ofEvents i fn pos es) O := by
  have hlt : i < gs.size := (Array.getElem?_eq_some_iff.1 hi).1
  have hu : ∀ op ∈ MemOp.ofEvents i fn pos es, op.g = i := fun op hop => by obtain ⟨e, _, rfl⟩ := Go.Conc.mem_ofEvents hop; rfl
  refine ⟨fun j x hj => ?_, fun j hj => ?_, ?_, h.apart⟩
  · by_cases hji : i = j
    · subst hji
      rw [Array.getElem?_setIfInBounds_self_of_lt (by simpa using hlt)] at hj
      obtain rfl := Option.some.inj hj
      rw [Deaf_own]
      exact hs
    · rw [Array.getElem?_setIfInBounds_ne hji, Array.getElem?_map] at hj
      obtain ⟨y, hy, rfl⟩ := Option.map_eq_some_iff.1 hj
      rw [Deaf_other t hji _ hu]
      exact hw j y (Ne.symm hji) hy (h.sit j y hy)
  · simp only [Array.size_setIfInBounds, Array.size_map] at hj
    rw [Deaf_other t (by omega) _ hu]
    exact h.above j hj
  · refine h.tok.move (fun op hop => ?_) (fun g b hb => ⟨g, hb, fun i hk => hk.app _⟩) (fun g hg => .inr (.inl hg)) fun g hg => hg
    obtain ⟨e, he, rfl⟩ := Go.Conc.mem_ofEvents hop
    refine ⟨touch_mute (hm e he), fun a => ?_⟩
    have := hm e he
    clear hm hw hs hop
    obtain ⟨loc, wr, sy⟩ := e
    cases loc with
    | mark m => cases m <;> first | (cases this; done) | simp [MemAct.ofEvent]
    | _ => cases this
end

def Comes (P : Program) (m : Machine) (t : Trace) (Q : Machine → Trace → Prop) : Prop := ∃ N m' t', runNT P N m t = (.next m', t') ∧ Q m' t'
theorem Comes.done {P : Program} {m : Machine} {t : Trace} {Q : Machine → Trace → Prop} (h : Q m t) : Comes P m t Q := ⟨0, m, t, rfl, h⟩
theorem Comes.step {P : Program} {m m' : Machine} {t : Trace} {ops : Array MemOp} {Q : Machine → Trace → Prop} (h : stepT P m = (.next m', ops)) (hk : Comes P m' (t ++ ops) Q) : Comes P m t Q := by
  obtain ⟨N, m2, t2, hr, hq⟩ := hk
  exact ⟨N + 1, m2, t2, by simp only [runNT, h]; exact hr, hq⟩
theorem Comes.bind {P : Program} {m : Machine} {t : Trace} {Q R : Machine → Trace → Prop} (h : Comes P m t Q) (hk : ∀ m' t', Q m' t' → Comes P m' t' R) : Comes P m t R := by
  obtain ⟨N, m', t', hr, hq⟩ := h
  obtain ⟨N2, m2, t2, hr2, hq2⟩ := hk m' t' hq
  exact ⟨N + N2, m2, t2, by rw [runNT_add, hr]; exact hr2, hq2⟩
theorem Comes.mono {P : Program} {m : Machine} {t : Trace} {Q R : Machine → Trace → Prop} (h : Comes P m t Q) (hk : ∀ m' t', Q m' t' → R m' t') : Comes P m t R := h.bind fun m' t' q => .done (hk m' t' q)
end Go.Proofs.YtgcbcagaibecbaaGreatDoor.Pool

namespace Go.Proofs.YtgcbcagaibecbaaGreatDoor.Pool
set_option maxRecDepth 20000
open Go Go.Conc Gap
open Go.ConcN (upd upd_same upd_ne WgLive PayAt RW AtK1 AtD1 AtD2 AtD3 AtD4)
open Go.ConcR (WgAt stA smA KK Payload DC0 mk)

structure Shop where
  P : Program
  Z : Nat → Prop
  ct : Nat
  cb : Nat
  zt : Value
  zb : Value
  zr : Value
  ty : TypeId
  Wg : Nat
  many : Nat
  AR : Nat → Goroutine → World → Prop
  AS : Nat → Nat → (Nat → Prop) → Goroutine → World → Prop
  Res : Nat → Value → (Nat → Prop) → World → Prop

def Mine (C b : Nat) : Prop := b = C ∨ b = C + 1
def Has2 (O : Nat → Prop) (C : Nat) : Prop := ∀ b, Mine C b → O b

section
variable [Payload] (X : Shop)
def RO (C : Nat) (w w1 : World) : Prop := (∀ b, Mine C b ∨ X.Z b → w1.heap[b]? = w.heap[b]?) ∧ (WgLive X.ty X.Wg w → WgLive X.ty X.Wg w1)
def D0 (C : Nat) (w w' : World) (es : Array Event) : Prop := w' = w ∧ ∀ e ∈ es, EvOk (Mine C) X.Z e
def CR0 (C : Nat) (g : Goroutine) (w : World) : Prop := g.status = .running ∧ ∃ g', stepG X.P false g w = .go g' w #[mk (.releaseMerge (stA X.Wg))] ∧ ∃ m, Goes X.P false (RW X.ty X.Wg C 1 0 0) DC0 (AtK1 X.P X.ty X.Wg C 1 0 1) m g' w

inductive WS : Nat → Option Nat → Rk → Nat → (Nat → Prop) → Goroutine → World → Prop
  | quit {q d : Nat} {O : Nat → Prop} {g : Goroutine} {W : World} : QuitsD X.P q d g → WS 1 none (.nat q) d O g W
  | recv {n C : Nat} {O : Nat → Prop} {g : Goroutine} {W : World} : Goes X.P false (RO X C) (D0 X C) (X.AR C) n g W → Has2 O C → WS 9 none (.nat (n + 1)) 0 O g W
  | parkR {C : Nat} {r : Rk} {O : Nat → Prop} {g : Goroutine} {W : World} : (∀ W1, RO X C W W1 → X.AR C g W1) → Has2 O C → WS 9 none r 0 O (parked g #[rcase X.ct X.zt] (.recv true)) W
  | wake {C : Nat} {r : Rk} {O : Nat → Prop} {g : Goroutine} {W : World} : (∀ W1, RO X C W W1 → X.AR C g W1) → Has2 O C → WS 9 none r.succ 0 O { parked g #[rcase X.ct X.zt] (.recv true) with status := .running } W
  | task {i C : Nat} {r : Rk} {O : Nat → Prop} {g : Goroutine} {W : World} : RWay X.P false X.Z (X.AS i C) r O g W → Has2 O C → WS 9 (some i) r.up 0 O g W
  | parkS {i C : Nat} {v : Value} {r : Rk} {O : Nat → Prop} {g : Goroutine} {W : World} : (∀ W1, Rely O X.Z W W1 → X.AS i C O g W1) → (∀ w, stepG X.P false g w = .comm g #[scase X.cb v X.zb] true .send w #[]) → Has2 O C → WS 9 (some i) r 0 O (parked g #[scase X.cb v X.zb] .send) W
  | clos {n C : Nat} {O : Nat → Prop} {g : Goroutine} {W : World} : Goes X.P false (RW X.ty X.Wg C 1 0 0) (D0 X C) (CR0 X C) n g W → Has2 O C → WS 7 none (.nat n) 0 O g W
  | k1 {n C : Nat} {O : Nat → Prop} {g : Goroutine} {W : World} : Goes X.P false (RW X.ty X.Wg C 1 0 0) DC0 (AtK1 X.P X.ty X.Wg C 1 0 1) n g W → Has2 O C → WS 6 none (.nat n) 0 O g W
  | d1 {n C : Nat} {O : Nat → Prop} {g : Goroutine} {W : World} : Goes X.P false (RW X.ty X.Wg C 1 0 0) DC0 (AtD1 X.P X.ty X.Wg C 1 0 1) n g W → Has2 O C → WS 5 none (.nat n) 1 O g W
  | d2 {n C : Nat} {O : Nat → Prop} {g : Goroutine} {W : World} : Goes X.P false (RW X.ty X.Wg C 1 0 0) DC0 (AtD2 X.P X.ty X.Wg C 1 0 1) n g W → Has2 O C → WS 4 none (.nat n) 1 O g W
  | d3 {n C : Nat} {O : Nat → Prop} {g : Goroutine} {W : World} : Goes X.P false (RW X.ty X.Wg C 1 0 0) DC0 (AtD3 X.P X.ty X.Wg C 1 0 1) n g W → Has2 O C → WS 3 none (.nat n) 1 O g W
  | d4 {n C : Nat} {O : Nat → Prop} {g : Goroutine} {W : World} : Goes X.P false (RW X.ty X.Wg C 1 0 0) DC0 (AtD4 X.P X.ty X.Wg) n g W → Has2 O C → WS 2 none (.nat n) 1 O g W

structure Shop.Ok : Prop where
  ar : ∀ C g W, X.AR C g W → g.status = .running ∧ (∀ w, stepG X.P false g w = .comm g #[rcase X.ct X.zt] true (.recv true) w #[]) ∧
    (∀ i : Nat, i < X.many → Way0 X.P false X.Z (X.AS i C) (Mine C) (Go.Conc.served g (.tuple #[.int .i64 i, .bool true])) W) ∧
    ∃ n, Goes X.P false (RW X.ty X.Wg C 1 0 0) (D0 X C) (CR0 X C) n (Go.Conc.served g (.tuple #[X.zt, .bool false])) W
  asn : ∀ i C O g W, X.AS i C O g W → g.status = .running ∧ ∃ v, (∀ w, stepG X.P false g w = .comm g #[scase X.cb v X.zb] true .send w #[]) ∧ X.Res i v (fun b => O b ∧ ¬ Mine C b) W ∧
    (WgLive X.ty X.Wg W → ∃ n, Goes X.P false (RO X C) (D0 X C) (X.AR C) n (Go.Conc.served g undef) W)
end

section
variable [Payload] {X : Shop} {C st d : Nat} {tk : Option Nat} {r : Rk} {O : Nat → Prop} {g g' a : Goroutine} {W W1 W2 W' : World}
omit [Payload] in
theorem RO.refl (w : World) : RO X C w w := ⟨fun _ _ => rfl, id⟩
omit [Payload] in
theorem RO.trans {a b c : World} (h : RO X C a b) (k : RO X C b c) : RO X C a c := ⟨fun x hx => (k.1 x hx).trans (h.1 x hx), k.2 ∘ h.2⟩
omit [Payload] in
theorem Oth.ro (h : Oth X.ty X.Wg O X.Z W W1) (hC : Has2 O C) : RO X C W W1 := ⟨fun b hb => h.rel.keep b (hb.imp (hC b) id), h.live⟩
theorem Oth.rw (h : Oth X.ty X.Wg O X.Z W W1) (hC : Has2 O C) : RW X.ty X.Wg C 1 0 0 W W1 := by
  have e := h.rel.keep C (.inl (hC C (.inl rfl)))
  exact ⟨fun b hb => by omega, h.live, fun ⟨cs, hc, hn⟩ => ⟨cs, e.trans hc, hn⟩, by simp [World.cell?, e]⟩
omit [Payload] in
theorem ro_trans (a b c : World) (h : RO X C a b) (k : RO X C b c) : RO X C a c := h.trans k
theorem rw_trans (a b c : World) (h : RW X.ty X.Wg C 1 0 0 a b) (k : RW X.ty X.Wg C 1 0 0 b c) : RW X.ty X.Wg C 1 0 0 a c := Go.ConcN.RW.trans h k

theorem WS.rely (h : WS X st tk r d O g W) (hr : 1 < st → Oth X.ty X.Wg O X.Z W W1) : WS X st tk r d O g W1 := by
  cases h with
  | quit h => exact .quit h
  | recv h hC => exact .recv (Goes.rely ro_trans h ((hr (by omega)).ro hC)) hC
  | parkR h hC => exact .parkR (fun W2 h2 => h W2 (((hr (by omega)).ro hC).trans h2)) hC
  | wake h hC => exact .wake (fun W2 h2 => h W2 (((hr (by omega)).ro hC).trans h2)) hC
  | task h hC => exact .task (h.rely (hr (by omega)).rel) hC
  | parkS h hs hC => exact .parkS (fun W2 h2 => h W2 ((hr (by omega)).rel.trans h2)) hs hC
  | clos h hC => exact .clos (Goes.rely rw_trans h ((hr (by omega)).rw hC)) hC
  | k1 h hC => exact .k1 (Goes.rely rw_trans h ((hr (by omega)).rw hC)) hC
  | d1 h hC => exact .d1 (Goes.rely rw_trans h ((hr (by omega)).rw hC)) hC
  | d2 h hC => exact .d2 (Goes.rely rw_trans h ((hr (by omega)).rw hC)) hC
  | d3 h hC => exact .d3 (Goes.rely rw_trans h ((hr (by omega)).rw hC)) hC
  | d4 h hC => exact .d4 (Goes.rely rw_trans h ((hr (by omega)).rw hC)) hC

omit [Payload] in
theorem RWay.run {P : Program} {main : Bool} {Z : Nat → Prop} {Stop : (Nat → Prop) → Goroutine → World → Prop} (hst : ∀ O g W, Stop O g W → g.status = .running) (h : RWay P main Z Stop r O g W) : g.status = .running := by
  rcases h.cases with h | h
  · exact hst _ _ _ (h W (.refl W))
  · exact h.1

theorem WS.status (ok : X.Ok) (h : WS X st tk r d O g W) : g.status = .running ∨ g.status = .finished ∨ ∃ g0 cs sh, g = parked g0 cs sh ∧ ∀ cc ∈ cs, cc.chan = .chan (some X.ct) ∨ cc.chan = .chan (some X.cb) := by
  cases h with
  | quit h => exact h.status.imp id .inl
  | recv h hC => exact .inl (Goes.running (fun g w h => (ok.ar _ g w h).1) W (.refl W) h)
  | parkR h hC => exact .inr (.inr ⟨_, _, _, rfl, fun cc hcc => by simp at hcc; subst hcc; exact .inl rfl⟩)
  | wake h hC => exact .inl rfl
  | task h hC => exact .inl (h.run fun O g W h => (ok.asn _ _ O g W h).1)
  | parkS h hs hC => exact .inr (.inr ⟨_, _, _, rfl, fun cc hcc => by simp at hcc; subst hcc; exact .inr rfl⟩)
  | clos h hC => exact .inl (Goes.running (fun g w h => h.1) W (Go.ConcN.RW.refl W) h)
  | k1 h hC => exact .inl (Goes.running (fun g w h => h.1) W (Go.ConcN.RW.refl W) h)
  | d1 h hC => exact .inl (Goes.running (fun g w h => h.1) W (Go.ConcN.RW.refl W) h)
  | d2 h hC => exact .inl (Goes.running (fun g w h => h.1) W (Go.ConcN.RW.refl W) h)
  | d3 h hC => exact .inl (Goes.running (fun g w h => h.1) W (Go.ConcN.RW.refl W) h)
  | d4 h hC => exact .inl (Goes.running (fun g w h => h.1) W (Go.ConcN.RW.refl W) h)
theorem WS.awake (ok : X.Ok) (h : WS X st tk r d O g W) : awake g := by
  rcases h.status ok with h | h | ⟨g0, cs, sh, rfl, _⟩
  · exact awake_of (.inl h)
  · exact awake_of (.inr (.inr h))
  · exact awake_of (.inr (.inl rfl))

def Chan (c : Nat) (W : World) : Prop := ∃ m tm, W.heap[c]? = some (.chan 0 #[] false m m tm)
omit [Payload] in
theorem again_open {cs : Array CommCase} {sh : CommShape} (h : ∀ cc ∈ cs, Opened W cc) : (parked g cs sh).again W = parked g cs sh := by
  simp [Goroutine.again, parked]
  intro x hx
  rcases h cs[x] (Array.getElem_mem hx) with e | ⟨c, m, tm, e, hc⟩
  · rw [e]
  · rw [e]; simp [hc]
omit [Payload] in
theorem woken_id {P : Program} {a a' x : Goroutine} (h : x.again W = x) : woken P a a' W x = x := by
  unfold woken
  split
  · exact h
  · rfl
theorem WS.woken (ok : X.Ok) (h : WS X st tk r d O g W) (h1 : 1 < st → Chan X.ct W') (h2 : tk ≠ none → Chan X.cb W') (a a' : Goroutine) : woken X.P a a' W' g = g := by
  have hs := h.status ok
  cases h with
  | parkR h hC => exact woken_id (again_open fun cc hcc => by simp at hcc; subst hcc; obtain ⟨m, tm, e⟩ := h1 (by omega); exact .inr ⟨X.ct, m, tm, rfl, e⟩)
  | parkS h hs hC => exact woken_id (again_open fun cc hcc => by simp at hcc; subst hcc; obtain ⟨m, tm, e⟩ := h2 (by simp); exact .inr ⟨X.cb, m, tm, rfl, e⟩)
  | quit h => exact woken_quitsD h
  | wake h hC => exact woken_id (again_running _ (.inl rfl))
  | recv h hC => exact woken_id (again_running _ (.inl (Goes.running (fun g w h => (ok.ar _ g w h).1) W (.refl W) h)))
  | task h hC => exact woken_id (again_running _ (.inl (h.run fun O g W h => (ok.asn _ _ O g W h).1)))
  | clos h hC => exact woken_id (again_running _ (.inl (Goes.running (fun g w h => h.1) W (Go.ConcN.RW.refl W) h)))
  | k1 h hC => exact woken_id (again_running _ (.inl (Goes.running (fun g w h => h.1) W (Go.ConcN.RW.refl W) h)))
  | d1 h hC => exact woken_id (again_running _ (.inl (Goes.running (fun g w h => h.1) W (Go.ConcN.RW.refl W) h)))
  | d2 h hC => exact woken_id (again_running _ (.inl (Goes.running (fun g w h => h.1) W (Go.ConcN.RW.refl W) h)))
  | d3 h hC => exact woken_id (again_running _ (.inl (Goes.running (fun g w h => h.1) W (Go.ConcN.RW.refl W) h)))
  | d4 h hC => exact woken_id (again_running _ (.inl (Goes.running (fun g w h => h.1) W (Go.ConcN.RW.refl W) h)))

theorem WS.next (ok : X.Ok) (h : WS X st none r d O g W) (hst : st = 1 ∨ st = 9) (hrun : g.status = .running) :
    (∃ g' es r', stepG X.P false g W = .go g' W es ∧ Rk.Sub r' r ∧ WS X st none r' (deafBehind d es) O g' W ∧ g'.status ≠ .blocked ∧ (st = 1 → ∀ e ∈ es, e.mute = true) ∧ (st = 9 → ∀ e ∈ es, EvOk O X.Z e)) ∨
    (st = 9 ∧ d = 0 ∧ ∃ C g0 r', Has2 O C ∧ (∀ w, stepG X.P false g w = .comm g0 #[rcase X.ct X.zt] true (.recv true) w #[]) ∧ (∀ W1, RO X C W W1 → X.AR C g0 W1) ∧ Rk.Sub r' r) := by
  generalize htk : (none : Option Nat) = tk at h
  cases h with
  | @quit q d O g W h =>
    cases q with
    | zero => rw [h.1] at hrun; cases hrun
    | succ q =>
      rcases h with ⟨h, _⟩ | ⟨_, g', es, hm, hstp, hq⟩
      · rw [h] at hrun; cases hrun
      · exact .inl ⟨g', es, .nat q, hstp W, Rk.sub_nat q, .quit hq, (by rcases hq.status with e | e <;> rw [e] <;> simp), fun _ => hm, fun x => by cases x⟩
  | @recv n C O g W h hC =>
    rcases h.cases with hk | ⟨n', rfl, hk⟩
    · exact .inr ⟨rfl, rfl, C, g, .nat n, hC, (ok.ar C g W (hk W (.refl W))).2.1, hk, Rk.sub_nat n⟩
    · obtain ⟨g', w', es, e, ⟨rfl, hes⟩, hg⟩ := hk W (.refl W)
      refine .inl ⟨g', es, .nat (n' + 1), e, Rk.sub_nat _, ?_, (by rw [Goes.running (fun g w h => (ok.ar _ g w h).1) _ (.refl _) hg]; simp), fun x => (by cases x), fun _ e he => (hes e he).mono fun b hb => hC b hb⟩
      rw [flat_evOk hes]
      exact .recv hg hC
  | parkR h hC => cases hrun
  | @wake C r O g W h hC =>
    refine .inr ⟨rfl, rfl, C, g, r, hC, fun w => ?_, h, Rk.sub_succ r⟩
    rw [stepG_tries]
    have := ok.ar C g W (h W (.refl W))
    rw [← this.2.1 w]
    exact stepG_same rfl rfl rfl w
  | task h hC => cases htk
  | parkS h hs hC => cases htk
  | clos h hC => omega
  | k1 h hC => omega
  | d1 h hC => omega
  | d2 h hC => omega
  | d3 h hC => omega
  | d4 h hC => omega
end
end Go.Proofs.YtgcbcagaibecbaaGreatDoor.Pool

namespace Go.Proofs.YtgcbcagaibecbaaGreatDoor.Pool
set_option maxRecDepth 20000
open Go Go.Conc Gap
open Go.ConcN (upd upd_same upd_ne WgLive PayAt RW AtK1 AtD1 AtD2 AtD3 AtD4 fork_knows)
open Go.ConcR (WgAt stA smA KK Payload DC0 mk)

section
variable {P : Program} {Shun : Loc → Prop} {Sh Z K : Nat → Prop} {Sit Sit' : Nat → Nat → (Nat → Prop) → Goroutine → World → Prop} {gs : Array Goroutine} {W W' : World} {t u : Trace} {O : Nat → Nat → Prop} {i : Nat} {g g' : Goroutine}
theorem Core.put (h : Core Shun Sh Z K Sit gs W t O) (hi : gs[i]? = some g) (hw : ∀ j x, j ≠ i → gs[j]? = some x → Sit j (Deaf t j) (O j) x W → Sit' j (Deaf t j) (O j) x W) (hs : Sit' i (Deaf t i) (O i) g' W) :
    Core Shun Sh Z K Sit' (gs.setIfInBounds i g') W t O := by
  have hlt : i < gs.size := (Array.getElem?_eq_some_iff.1 hi).1
  refine ⟨fun j x hj => ?_, fun j hj => h.above j (by simpa using hj), h.tok, h.apart⟩
  by_cases hji : i = j
  · subst hji
    rw [Array.getElem?_setIfInBounds_self_of_lt hlt] at hj
    obtain rfl := Option.some.inj hj
    exact hs
  · rw [Array.getElem?_setIfInBounds_ne hji] at hj
    exact hw j x (Ne.symm hji) hj (h.sit j x hj)
theorem upd_self {α : Type} (f : Nat → α) (i : Nat) : upd f i (f i) = f := by
  funext x
  by_cases hx : x = i
  · subst hx; rw [upd_same]
  · rw [upd_ne _ _ hx]
theorem ofEvents_nil (g : Nat) (fn : FuncId) (pos : String) : MemOp.ofEvents g fn pos #[] = #[] := rfl
theorem Fine.still {O : Nat → Prop} {es : Array Event} (hO : ∀ b, O b → b < W.heap.size) (h : ∀ e ∈ es, EvOk O Z e) : Fine Sh Z O O i W W es :=
  ⟨rfl, rfl, rfl, Nat.le_refl _, fun _ _ _ _ => rfl, fun b hb => ⟨.inl hb, hO b hb⟩, fun e he => ⟨(touch_of_evOk (h e he)).1, (touch_of_evOk (Sh := Sh) (g := i) (h e he)).2.1⟩⟩
end

section
variable [Payload] (X : Shop)
def ESit (K : Nat → Prop) (d0 : Nat) (j d : Nat) (Oj : Nat → Prop) (x : Goroutine) (W : World) : Prop := (j = 0 → d = d0) ∧ (j ≠ 0 → ∃ r st, WS X st none r d Oj x W ∧ (st = 1 ∧ ¬ K j ∨ st = 9 ∧ K j))
def RSit (K : Nat → Prop) (d0 : Nat) (ρ : Nat → Rk) (j d : Nat) (Oj : Nat → Prop) (x : Goroutine) (W : World) : Prop := (j = 0 → d = d0) ∧ (j ≠ 0 → ∃ st, WS X st none (ρ j) d Oj x W ∧ (st = 1 ∧ ¬ K j ∨ st = 9 ∧ K j))
structure Idle (d0 : Nat) (Shun : Loc → Prop) (Sh K : Nat → Prop) (gs : Array Goroutine) (W : World) (t : Trace) (O : Nat → Nat → Prop) : Prop where
  core : Core Shun Sh X.Z K (ESit X K d0) gs W t O
  sh : (∃ j, K j) → Sh X.ct ∧ Sh X.Wg
  chan : (∃ j, K j) → Chan X.ct W
  kin : ∀ j, K j → 0 < j ∧ j < gs.size
end

section
variable [Payload] {X : Shop} {Shun : Loc → Prop} {Sh K : Nat → Prop} {gs : Array Goroutine} {W W' : World} {t : Trace} {O : Nat → Nat → Prop} {O' : Nat → Prop} {a a' : Goroutine} {sl : Option (Nat × Nat)} {es : Array Event} {d0 d1 : Nat}

theorem WS.blocked (ok : X.Ok) {st d : Nat} {r : Rk} {Oj : Nat → Prop} {x : Goroutine} (h : WS X st none r d Oj x W) (hb : x.status = .blocked) : ∃ g0, x = parked g0 #[rcase X.ct X.zt] (.recv true) := by
  have no : x.status = .running → ∃ g0, x = parked g0 #[rcase X.ct X.zt] (.recv true) := fun e => by rw [e] at hb; cases hb
  generalize htk : (none : Option Nat) = tk at h
  cases h with
  | quit h => rcases h.status with e | e <;> rw [e] at hb <;> cases hb
  | parkR h hC => exact ⟨_, rfl⟩
  | wake h hC => cases hb
  | recv h hC => exact no (Goes.running (fun g w h => (ok.ar _ g w h).1) W (.refl W) h)
  | task h hC => cases htk
  | parkS h hs hC => cases htk
  | clos h hC => exact no (Goes.running (fun g w h => h.1) W (Go.ConcN.RW.refl W) h)
  | k1 h hC => exact no (Goes.running (fun g w h => h.1) W (Go.ConcN.RW.refl W) h)
  | d1 h hC => exact no (Goes.running (fun g w h => h.1) W (Go.ConcN.RW.refl W) h)
  | d2 h hC => exact no (Goes.running (fun g w h => h.1) W (Go.ConcN.RW.refl W) h)
  | d3 h hC => exact no (Goes.running (fun g w h => h.1) W (Go.ConcN.RW.refl W) h)
  | d4 h hC => exact no (Goes.running (fun g w h => h.1) W (Go.ConcN.RW.refl W) h)

theorem choose_ranks (h : Core Shun Sh X.Z K (ESit X K d0) gs W t O) : ∃ ρ, Core Shun Sh X.Z K (RSit X K d0 ρ) gs W t O := by
  have key : ∀ j, ∃ r, ∀ x, gs[j]? = some x → j ≠ 0 → ∃ st, WS X st none r (Deaf t j) (O j) x W ∧ (st = 1 ∧ ¬ K j ∨ st = 9 ∧ K j) := fun j => by
    cases hj : gs[j]? with
    | none => exact ⟨.leaf, fun x hx => by cases hx⟩
    | some y =>
      by_cases h0 : j = 0
      · exact ⟨.leaf, fun _ _ hn => absurd h0 hn⟩
      · obtain ⟨r, st, hw⟩ := (h.sit j y hj).2 h0
        exact ⟨r, fun x hx _ => by cases hx; exact ⟨st, hw⟩⟩
  exact ⟨fun j => (key j).choose, ⟨fun j x hj => ⟨(h.sit j x hj).1, (key j).choose_spec x hj⟩, h.above, h.tok, h.apart⟩⟩

theorem pick_aux (ok : X.Ok) (hrun : a.status = .running) : ∀ (n : Nat) (ρ : Nat → Rk) (gs : Array Goroutine) (W : World) (sl : Option (Nat × Nat)) (t : Trace), gs.size = n → Core Shun Sh X.Z K (RSit X K d0 ρ) gs W t O → ((∃ j, K j) → Sh X.ct ∧ Sh X.Wg) → ((∃ j, K j) → Chan X.ct W) → (∀ j, K j → 0 < j ∧ j < gs.size) → gs[0]? = some a →
    Comes X.P (crowd gs W sl) t fun m' t' => ∃ gs' W1 sl0 sl1 d, m' = crowd gs' W1 sl0 ∧ stepT X.P m' = runT X.P (crowd gs' (W1.at d) sl1) 0 ∧ Idle X d0 Shun Sh K gs' (W1.at d) t' O ∧ gs'[0]? = some a ∧ gs'.size = n ∧ ∃ e, W1.at d = W.at e := by
  intro n ρ
  induction ρ using (Dec.wf n).induction with
  | _ ρ ih =>
    intro gs W sl t hn hC hsh hch hkin h0
    have haw : ∀ g ∈ gs, awake g := by
      intro g hg
      obtain ⟨i, hi, rfl⟩ := Array.mem_iff_getElem.1 hg
      by_cases hi0 : i = 0
      · subst hi0
        have : gs[0] = a := by simpa [Array.getElem?_eq_getElem hi] using h0
        rw [this]; exact awake_of (.inl hrun)
      · obtain ⟨st, hw, _⟩ := (hC.sit i _ (Array.getElem?_eq_getElem hi)).2 hi0
        exact hw.awake ok
    obtain ⟨i, g, d, sl', hi, hg, hst⟩ := crowd_pick (P := X.P) (w := W) (sl := sl) haw ⟨0, a, h0, hrun⟩
    have hCd : Core Shun Sh X.Z K (RSit X K d0 ρ) gs (W.at d) t O := hC.at d fun _ _ _ hs => ⟨hs.1, fun h0 => let ⟨st, hw, hc⟩ := hs.2 h0; ⟨st, hw.rely fun _ => .at W d, hc⟩⟩
    have hch' : (∃ j, K j) → Chan X.ct (W.at d) := fun hk => let ⟨m, tm, e⟩ := hch hk; ⟨m, tm, e⟩
    by_cases hi0 : i = 0
    · subst hi0
      exact .done ⟨gs, W, sl, sl', d, rfl, hst, ⟨⟨fun j x hj => ⟨(hCd.sit j x hj).1, fun h0 => let ⟨st, hw⟩ := (hCd.sit j x hj).2 h0; ⟨_, st, hw⟩⟩, hCd.above, hCd.tok, hCd.apart⟩, hsh, hch', hkin⟩, h0, hn, d, rfl⟩
    · obtain ⟨st, hw, hst9⟩ := (hCd.sit i g hi).2 hi0
      have hlt : i < gs.size := (Array.getElem?_eq_some_iff.1 hi).1
      have hi0' : (i == 0) = false := by simpa using hi0
      rcases hw.next ok (hst9.elim (fun x => .inl x.1) (fun x => .inr x.1)) hg with ⟨g', es, r', e, hsub, hw', _, h1, h9⟩ | ⟨rfl, hd, C, g0, r', hC0, hcomm, hAR, hsub⟩
      · have hrunT := runT_crowd_go (P := X.P) (sl := sl') (i := i) hi (by rw [hi0']; exact e)
        have others : ∀ j x, j ≠ i → gs[j]? = some x → RSit X K d0 ρ j (Deaf t j) (O j) x (W.at d) → RSit X K d0 (upd ρ i r') j (Deaf t j) (O j) (woken X.P g g' (W.at d) x) (W.at d) := fun j x hj hx hs => by
          refine ⟨hs.1, fun h0 => ?_⟩
          obtain ⟨st', hw2, hc2⟩ := hs.2 h0
          refine ⟨st', ?_, hc2⟩
          rw [upd_ne _ _ hj, hw2.woken ok (fun h => hch' ⟨j, hc2.elim (fun x => by omega) (·.2)⟩) (fun h => absurd rfl h)]
          exact hw2
        have mine : RSit X K d0 (upd ρ i r') i (deafBehind (Deaf t i) es) (O i) g' (W.at d) := ⟨fun h => absurd h hi0, fun _ => ⟨st, by rw [upd_same]; exact hw', hst9⟩⟩
        have key : Core Shun Sh X.Z K (RSit X K d0 (upd ρ i r')) ((gs.map (woken X.P g g' (W.at d))).setIfInBounds i g') (W.at d) (t ++ MemOp.ofEvents i g.frame.fn g.frame.place es) O := by
          rcases hst9 with ⟨rfl, hk⟩ | ⟨rfl, hk⟩
          · exact hCd.slip hi (h1 rfl) others mine _ _
          · have := hCd.own (Sit' := RSit X K d0 (upd ρ i r')) hi (.inr hk) (.still (fun b hb => hCd.apart.lo i b hb) (h9 rfl)) (fun j x hj hx hs _ => others j x hj hx hs) mine g.frame.fn g.frame.place
            rwa [upd_self] at this
        refine .step (hst.trans hrunT) ?_
        refine (ih (upd ρ i r') (.of (by omega) hsub) _ _ _ _ (by simpa using hn) key hsh hch' (fun j hj => by simpa using hkin j hj) ?_).mono fun m' t' ⟨gs', W1, sl0, sl1, d', x1, x2, x3, x4, x5, e', x6⟩ => ⟨gs', W1, sl0, sl1, d', x1, x2, x3, x4, x5, e', x6⟩
        have hne : i ≠ 0 := hi0
        rw [Array.getElem?_setIfInBounds_ne hne, Array.getElem?_map, h0]
        simp [woken_run hrun]
      · have hk : K i := hst9.elim (fun x => by omega) (·.2)
        obtain ⟨m, tm, hchan⟩ := hch' ⟨i, hk⟩
        rcases comm_open (P := X.P) (sl := sl') (i := i) hi (by rw [hi0']; exact hcomm (W.at d)) (fun cc hcc => by simp at hcc; subst hcc; exact .inr ⟨X.ct, m, tm, rfl, hchan⟩) with ⟨_, hr⟩ | ⟨gs', w', u, ⟨k, cc, c, m', tm', j, gj, cs', sh', k', cc', d', x0, x1, x2, x3, hkc, hcc, _, hji, hj, hb, ho, hk', _, hs, _⟩, _⟩
        · refine .step (hst.trans hr) ?_
          rw [ofEvents_nil, Array.append_empty]
          have key : Core Shun Sh X.Z K (RSit X K d0 (upd ρ i r')) (gs.setIfInBounds i (parked g0 #[rcase X.ct X.zt] (.recv true))) (W.at d) t O := by
            refine hCd.put hi (fun j x hj hx hs => ⟨hs.1, fun h0 => ?_⟩) ⟨fun h => absurd h hi0, fun _ => ⟨9, by rw [upd_same, hd]; exact .parkR hAR hC0, .inr ⟨rfl, hk⟩⟩⟩
            obtain ⟨st', hw2, hc2⟩ := hs.2 h0
            exact ⟨st', by rw [upd_ne _ _ hj]; exact hw2, hc2⟩
          refine (ih (upd ρ i r') (.of (by omega) hsub) _ _ _ _ (by simpa using hn) key hsh hch' (fun j hj => by simpa using hkin j hj) ?_).mono fun m' t' ⟨gs', W1, sl0, sl1, d', x1, x2, x3, x4, x5, e', x6⟩ => ⟨gs', W1, sl0, sl1, d', x1, x2, x3, x4, x5, e', x6⟩
          have hne : i ≠ 0 := hi0
          rw [Array.getElem?_setIfInBounds_ne hne, h0]
        · exfalso
          have hccr : cc = rcase X.ct X.zt := by
            obtain ⟨hlt', e'⟩ := Array.getElem?_eq_some_iff.1 hkc
            have : k = 0 := by simp at hlt'; omega
            subst this
            exact e'.symm
          by_cases hj0 : j = 0
          · subst hj0
            rw [h0] at hj
            cases hj
            rw [hrun] at hb
            cases hb
          · obtain ⟨st', hw2, _⟩ := (hCd.sit j gj hj).2 hj0
            obtain ⟨g1, rfl⟩ := hw2.blocked ok hb
            simp only [parked, Option.some.injEq, Prod.mk.injEq] at ho
            obtain ⟨rfl, _⟩ := ho
            have : cc' = rcase X.ct X.zt := by
              obtain ⟨hlt', e'⟩ := Array.getElem?_eq_some_iff.1 hk'
              have : k' = 0 := by simp at hlt'; omega
              subst this
              exact e'.symm
            subst this hccr
            cases hs

theorem pick (ok : X.Ok) (h : Idle X d0 Shun Sh K gs W t O) (h0 : gs[0]? = some a) (hrun : a.status = .running) :
    Comes X.P (crowd gs W sl) t fun m' t' => ∃ gs' W1 sl0 sl1 d, m' = crowd gs' W1 sl0 ∧ stepT X.P m' = runT X.P (crowd gs' (W1.at d) sl1) 0 ∧ Idle X d0 Shun Sh K gs' (W1.at d) t' O ∧ gs'[0]? = some a ∧ gs'.size = gs.size ∧ ∃ e, W1.at d = W.at e := by
  obtain ⟨ρ, hρ⟩ := choose_ranks h.core
  exact pick_aux ok hrun gs.size ρ gs W sl t rfl hρ h.sh h.chan h.kin h0

theorem Idle.own (ok : X.Ok) (h : Idle X d0 Shun Sh K gs W t O) (h0 : gs[0]? = some a) (hf : Fine Sh X.Z (O 0) O' 0 W W' es) (hflat : deafBehind d0 es = d1) (hl : (∃ j, K j) → WgLive X.ty X.Wg W → WgLive X.ty X.Wg W') (hch : (∃ j, K j) → Chan X.ct W') (fn : FuncId) (pos : String) :
    Idle X d1 Shun Sh K ((gs.map (woken X.P a a' W')).setIfInBounds 0 a') W' (t ++ MemOp.ofEvents 0 fn pos es) (upd O 0 O') := by
  refine ⟨h.core.own h0 (.inl rfl) hf (fun j x hj hx hs hr => ⟨fun e => absurd e hj, fun h0 => ?_⟩) ⟨fun _ => ?_, fun h => absurd rfl h⟩ fn pos, h.sh, hch, fun j hj => by simpa using h.kin j hj⟩
  · obtain ⟨r, st, hw, hc⟩ := hs.2 h0
    refine ⟨r, st, ?_, hc⟩
    have hk : 1 < st → K j := fun h => hc.elim (fun x => by omega) (·.2)
    have hw' := hw.rely fun h => ⟨hr, hl ⟨j, hk h⟩⟩
    rw [hw'.woken ok (fun h => hch ⟨j, hk h⟩) (fun h => absurd rfl h)]
    exact hw'
  · rw [(h.core.sit 0 a h0).1 rfl]
    exact hflat

theorem beside (ok : X.Ok) {Stop : (Nat → Prop) → Goroutine → World → Prop} {Oa : Nat → Prop} (h : Way0 X.P true X.Z Stop Oa a W) : ∀ (gs : Array Goroutine) (t : Trace) (O : Nat → Nat → Prop) (sl : Option (Nat × Nat)), O 0 = Oa → Idle X d0 Shun Sh K gs W t O → gs[0]? = some a →
    Comes X.P (crowd gs W sl) t fun m' t' => ∃ gs' W' sl' O' a', m' = crowd gs' W' sl' ∧ Idle X d0 Shun Sh K gs' W' t' O' ∧ gs'[0]? = some a' ∧ gs'.size = gs.size ∧ (∀ j, j ≠ 0 → O' j = O j) ∧ (∀ b, Sh b ∨ X.Z b → W'.heap[b]? = W.heap[b]?) ∧ (∀ W1, Rely (O' 0) X.Z W' W1 → Stop (O' 0) a' W1) := by
  induction h with
  | @stop Oa a W h => exact fun gs t O sl hO hI h0 => .done ⟨gs, W, sl, O, a, rfl, hI, h0, rfl, fun _ _ => rfl, fun _ _ => rfl, by rw [hO]; exact h⟩
  | leap T _ h => exact (h _ (.refl _)).elim
  | @step Oa a W hs hg hk ih =>
    intro gs t O sl hO hI h0
    subst hO
    refine (pick (sl := sl) ok hI h0 hs).bind fun m' t' ⟨gs', W1, sl0, sl1, d, hm, hst, hI', h0', hsz, e, he⟩ => ?_
    subst hm
    have hr : Rely (O 0) X.Z W (W1.at d) := by rw [he]; exact rely_at W e
    obtain ⟨a', W', es, hstep, hgu⟩ := hg (W1.at d) hr
    have hrunT := runT_crowd_go (P := X.P) (sl := sl1) (i := 0) h0' (show stepG X.P (0 == 0) a (W1.at d) = _ from hstep)
    have hlow : ∀ b, O 0 b → b < (W1.at d).heap.size := fun b hb => hI'.core.apart.lo 0 b hb
    have shk : ∀ b, Sh b ∨ X.Z b → W'.heap[b]? = (W1.at d).heap[b]? := fun b hb => hb.elim (fun hb => hgu.keep b (hI'.core.apart.loS b hb) fun x => hI'.core.apart.sh 0 b x hb) fun hb => hgu.keep b (hI'.core.apart.loZ b hb) fun x => hI'.core.apart.shr 0 b x hb
    have hI2 := hI'.own (a' := a') ok h0' (Fine.of (g := 0) hgu hlow) (flat_evOk hgu.evs d0) (fun hk ⟨st, sm, hl⟩ => ⟨st, sm, (shk _ (.inl (hI'.sh hk).2)).trans hl⟩) (fun hk => by
      obtain ⟨m, tm, e⟩ := hI'.chan hk
      exact ⟨m, tm, (shk _ (.inl (hI'.sh hk).1)).trans e⟩) a.frame.fn a.frame.place
    refine .step (hst.trans hrunT) ?_
    have hlt : 0 < gs'.size := (Array.getElem?_eq_some_iff.1 h0').1
    refine (ih (W1.at d) a' W' es hr hstep _ _ _ sl1 (upd_same _ _ _) hI2 (by simp [hlt])).mono fun m' t' ⟨gs2, W2, sl2, O2, a2, x1, x2, x3, x4, x5, x7, x6⟩ => ⟨gs2, W2, sl2, O2, a2, x1, x2, x3, ?_, fun j hj => (x5 j hj).trans (upd_ne _ _ hj), fun b hb => (x7 b hb).trans ((shk b hb).trans (by rw [he]; rfl)), x6⟩
    rw [x4]
    simpa using hsz

theorem take (ok : X.Ok) {Q : Goroutine → World → Array Event → (Nat → Prop) → Prop} (hrun : a.status = .running) (hI : Idle X d0 Shun Sh K gs W t O) (h0 : gs[0]? = some a)
    (hs : ∀ e, ∃ a' W' es O', stepG X.P true a (W.at e) = .go a' W' es ∧ Fine Sh X.Z (O 0) O' 0 (W.at e) W' es ∧ deafBehind d0 es = d1 ∧ ((∃ j, K j) → WgLive X.ty X.Wg W → WgLive X.ty X.Wg W') ∧ ((∃ j, K j) → W'.heap[X.ct]? = W.heap[X.ct]?) ∧ Q a' W' es O') :
    Comes X.P (crowd gs W sl) t fun m' t' => ∃ gs' W' sl' O' a' es, m' = crowd gs' W' sl' ∧ Idle X d1 Shun Sh K gs' W' t' (upd O 0 O') ∧ gs'[0]? = some a' ∧ gs'.size = gs.size ∧ Q a' W' es O' := by
  refine (pick (sl := sl) ok hI h0 hrun).bind fun m' t' ⟨gs', W1, sl0, sl1, d, hm, hst, hI', h0', hsz, e, he⟩ => ?_
  subst hm
  obtain ⟨a', W', es, O', hstep, hf, hd, hl, hc, hq⟩ := hs e
  rw [← he] at hstep hf
  have hrunT := runT_crowd_go (P := X.P) (sl := sl1) (i := 0) h0' (show stepG X.P (0 == 0) a (W1.at d) = _ from hstep)
  have hI2 := hI'.own (a' := a') ok h0' hf hd (fun hk x => hl hk (by rw [he] at x; exact x)) (fun hk => by
    obtain ⟨m, tm, x⟩ := hI.chan hk
    exact ⟨m, tm, (hc hk).trans x⟩) a.frame.fn a.frame.place
  have hlt : 0 < gs'.size := (Array.getElem?_eq_some_iff.1 h0').1
  exact .step (hst.trans hrunT) (.done ⟨_, W', sl1, O', a', es, rfl, hI2, by simp [hlt], by simpa using hsz, hq⟩)

theorem beside_goes (ok : X.Ok) {R : World → World → Prop} {Stop : Goroutine → World → Prop} (hR : ∀ w d, R w (w.at d)) : ∀ (n : Nat) (a : Goroutine) (gs : Array Goroutine) (W : World) (t : Trace) (sl : Option (Nat × Nat)), Goes X.P true R DC0 Stop n a W → Idle X d0 Shun Sh K gs W t O → gs[0]? = some a →
    Comes X.P (crowd gs W sl) t fun m' t' => ∃ gs' W' sl' a', m' = crowd gs' W' sl' ∧ Idle X d0 Shun Sh K gs' W' t' O ∧ gs'[0]? = some a' ∧ gs'.size = gs.size ∧ (∃ e, W' = W.at e) ∧ (∀ W1, R W' W1 → Stop a' W1) := by
  intro n
  induction n with
  | zero => exact fun a gs W t sl h hI h0 => .done ⟨gs, W, sl, a, rfl, hI, h0, rfl, ⟨W.drawn, rfl⟩, h⟩
  | succ n ih =>
    intro a gs W t sl h hI h0
    rcases h with h | ⟨hs, h⟩
    · exact .done ⟨gs, W, sl, a, rfl, hI, h0, rfl, ⟨W.drawn, rfl⟩, h⟩
    refine (take (sl := sl) (d1 := d0) (Q := fun a' W' _ O' => (∃ e, W' = W.at e) ∧ O' = O 0 ∧ Goes X.P true R DC0 Stop n a' W') ok hs hI h0 fun e => ?_).bind fun m' t' ⟨gs', W', sl', O', a', es, hm, hI', h0', hsz, ⟨e, he⟩, hO, hg⟩ => ?_
    · obtain ⟨a', W', es, hst, ⟨rfl, rfl⟩, hg⟩ := goes_elim (h (W.at e) (hR W e))
      exact ⟨a', _, _, O 0, hst, .still (fun b hb => hI.core.apart.lo 0 b hb) (by simp), rfl, fun _ x => x, fun _ => rfl, ⟨e, rfl⟩, rfl, hg⟩
    · subst hm hO
      rw [upd_self] at hI'
      exact (ih a' gs' W' t' sl' hg hI' h0').mono fun m2 t2 ⟨gs2, W2, sl2, a2, x1, x2, x3, x4, ⟨e2, x5⟩, x6⟩ => ⟨gs2, W2, sl2, a2, x1, x2, x3, x4.trans hsz, ⟨e2, by rw [x5, he]; rfl⟩, x6⟩
end
end Go.Proofs.YtgcbcagaibecbaaGreatDoor.Pool

namespace Go.Proofs.YtgcbcagaibecbaaGreatDoor.Pool
set_option maxRecDepth 20000
open Go Go.Conc Gap
open Go.ConcN (upd upd_same upd_ne WgLive PayAt RW fork_knows)
open Go.ConcR (WgAt stA smA KK Payload DC0 mk)

section
variable [Payload] {X : Shop} {Shun : Loc → Prop} {Sh K : Nat → Prop} {gs : Array Goroutine} {W W' : World} {t : Trace} {O : Nat → Nat → Prop} {a a' child : Goroutine} {sl : Option (Nat × Nat)} {C : Nat}

theorem born (ok : X.Ok) (hI : Idle X 0 Shun Sh K gs W t O) (h0 : gs[0]? = some a) (hrun : a.status = .running) (hsh : Sh X.ct ∧ Sh X.Wg) (hch : Chan X.ct W) (hC : Has2 (O 0) C)
    (hs : ∀ e, stepG X.P true a (W.at e) = .spawn a' child (W.at e) #[]) (hw : ∃ n, Goes X.P false (RO X C) (D0 X C) (X.AR C) n child W) :
    Comes X.P (crowd gs W sl) t fun m' t' => ∃ gs' W' sl', m' = crowd gs' W' sl' ∧ Idle X 0 Shun Sh (fun j => K j ∨ j = gs.size) gs' W' t' (upd (upd O 0 fun b => O 0 b ∧ ¬ Mine C b) gs.size (Mine C)) ∧ gs'[0]? = some a' ∧ gs'.size = gs.size + 1 ∧ ∃ e, W' = W.at e := by
  refine (pick (sl := sl) ok hI h0 hrun).bind fun m' t' ⟨gs', W1, sl0, sl1, d, hm, hst, hI', h0', hsz, e, he⟩ => ?_
  subst hm
  have hstep := hs e
  rw [← he] at hstep
  have hrunT := runT_crowd_spawn (P := X.P) (sl := sl1) (i := 0) h0' (show stepG X.P (0 == 0) a (W1.at d) = _ from hstep)
  have hpos : 0 < gs'.size := (Array.getElem?_eq_some_iff.1 h0').1
  refine .step (hst.trans hrunT) (.done ⟨_, W1.at d, sl1, rfl, ?_, by rw [Array.getElem?_push, if_neg (by simp only [Array.size_setIfInBounds]; omega), Array.getElem?_setIfInBounds_self_of_lt hpos], by simp [hsz], e, he⟩)
  obtain ⟨n, hg⟩ := hw
  have hd0 : Deaf t' 0 = 0 := (hI'.core.sit 0 a h0').1 rfl
  have hdn : Deaf t' gs'.size = 0 := hI'.core.above _ (Nat.le_refl _)
  have hu : ∀ op ∈ #[({ g := 0, fn := a.frame.fn, pos := a.frame.place, act := .go gs'.size } : MemOp), { g := gs'.size, fn := child.frame.fn, pos := a.frame.place, act := .start }], op.act.touch? = none ∧ (∀ x, op.act ≠ .mark (.release x)) ∧ op.act ≠ .mark .disable ∧ op.act ≠ .mark .enable := by
    intro op hop
    simp at hop
    rcases hop with rfl | rfl <;> simp [MemAct.touch?]
  have hkn : ∀ i, Knows t' 0 i → Knows (t' ++ #[({ g := 0, fn := a.frame.fn, pos := a.frame.place, act := .go gs'.size } : MemOp), { g := gs'.size, fn := child.frame.fn, pos := a.frame.place, act := .start }]) gs'.size i := fun i h => fork_knows ⟨rfl, rfl⟩ ⟨rfl, rfl⟩ hd0 hdn h
  have hD : ∀ j, Deaf (t' ++ #[({ g := 0, fn := a.frame.fn, pos := a.frame.place, act := .go gs'.size } : MemOp), { g := gs'.size, fn := child.frame.fn, pos := a.frame.place, act := .start }]) j = Deaf t' j := fun j => Deaf_flat (fun op hop => (hu op hop).2.2) j
  have hne : gs'.size ≠ 0 := by omega
  have oc : ∀ j, j ≠ 0 → j ≠ gs'.size → upd (upd O 0 fun b => O 0 b ∧ ¬ Mine C b) gs'.size (Mine C) j = O j := fun j h1 h2 => by rw [upd_ne _ _ h2, upd_ne _ _ h1]
  have o0 : upd (upd O 0 fun b => O 0 b ∧ ¬ Mine C b) gs'.size (Mine C) 0 = fun b => O 0 b ∧ ¬ Mine C b := by rw [upd_ne _ _ (Ne.symm hne), upd_same]
  have on : upd (upd O 0 fun b => O 0 b ∧ ¬ Mine C b) gs'.size (Mine C) gs'.size = Mine C := upd_same _ _ _
  rw [← hsz]
  have from0 : ∀ j b, upd (upd O 0 fun b => O 0 b ∧ ¬ Mine C b) gs'.size (Mine C) j b → (j = gs'.size ∧ Mine C b ∧ O 0 b) ∨ (j ≠ gs'.size ∧ O j b ∧ (j = 0 → ¬ Mine C b)) := fun j b h => by
    by_cases h1 : j = gs'.size
    · subst h1
      rw [on] at h
      exact .inl ⟨rfl, h, hC b h⟩
    · by_cases h2 : j = 0
      · subst h2
        rw [o0] at h
        exact .inr ⟨h1, h.1, fun _ => h.2⟩
      · rw [oc j h2 h1] at h
        exact .inr ⟨h1, h, fun x => absurd x h2⟩
  have ap := hI'.core.apart
  refine ⟨⟨fun j x hj => ?_, fun j hj => ?_, ?_, ⟨fun g h b hgh hg hh => ?_, fun g b hg => ?_, fun g b hg => ?_, ap.zsh, fun g b hg => ?_, ap.loZ, ap.loS⟩⟩, fun _ => hsh, fun _ => ?_, fun j hj => ?_⟩
  · show ESit X _ 0 j (Deaf _ j) _ x _
    rw [Array.getElem?_push] at hj
    split at hj
    · rename_i hjn
      simp only [Array.size_setIfInBounds] at hjn
      obtain rfl := Option.some.inj hj
      refine ⟨fun h => absurd (hjn.symm.trans h) hne, fun _ => ⟨.nat (n + 1), 9, ?_, .inr ⟨rfl, .inr hjn⟩⟩⟩
      rw [hjn]
      have := hD gs'.size
      rw [on]
      have e0 : Deaf (t' ++ ((MemOp.ofEvents 0 a.frame.fn a.frame.place #[]).push { g := 0, fn := a.frame.fn, pos := a.frame.place, act := .go gs'.size } |>.push { g := gs'.size, fn := child.frame.fn, pos := a.frame.place, act := .start })) gs'.size = 0 := this.trans hdn
      rw [e0]
      exact .recv (Goes.rely ro_trans hg (by rw [he]; exact ⟨fun _ _ => rfl, fun x => x⟩)) fun b hb => hb
    · rename_i hjn
      simp only [Array.size_setIfInBounds] at hjn
      have e0 : Deaf (t' ++ ((MemOp.ofEvents 0 a.frame.fn a.frame.place #[]).push { g := 0, fn := a.frame.fn, pos := a.frame.place, act := .go gs'.size } |>.push { g := gs'.size, fn := child.frame.fn, pos := a.frame.place, act := .start })) j = Deaf t' j := hD j
      rw [e0]
      by_cases hj0 : j = 0
      · subst hj0
        exact ⟨fun _ => hd0, fun h => absurd rfl h⟩
      · rw [Array.getElem?_setIfInBounds_ne (Ne.symm hj0)] at hj
        obtain ⟨r, st, hw, hc⟩ := (hI'.core.sit j x hj).2 hj0
        rw [oc j hj0 hjn]
        exact ⟨fun h => absurd h hj0, fun _ => ⟨r, st, hw, hc.imp (fun x => ⟨x.1, fun y => y.elim x.2 hjn⟩) fun x => ⟨x.1, .inl x.2⟩⟩⟩
  · simp only [Array.size_push, Array.size_setIfInBounds] at hj
    exact (hD j).trans (hI'.core.above j (by omega))
  · refine hI'.core.tok.move (u := #[({ g := 0, fn := a.frame.fn, pos := a.frame.place, act := .go gs'.size } : MemOp), { g := gs'.size, fn := child.frame.fn, pos := a.frame.place, act := .start }]) (fun op hop => ⟨(hu op hop).1, (hu op hop).2.1⟩) (fun g b hb => ?_) (fun g hg => ?_) fun g hg => .inl hg
    · rcases from0 g b hb with ⟨rfl, _, h⟩ | ⟨_, h, _⟩
      · exact ⟨0, h, hkn⟩
      · exact ⟨g, h, fun i hk => hk.app _⟩
    · rcases hg with hg | rfl
      · exact .inr (.inl hg)
      · exact .inr (.inr hkn)
  · rcases from0 g b hg with ⟨rfl, m1, h1⟩ | ⟨n1, h1, k1⟩ <;> rcases from0 h b hh with ⟨rfl, e2, h2⟩ | ⟨n2, h2, k2⟩
    · exact hgh rfl
    · by_cases hz : h = 0
      · exact k2 hz m1
      · exact ap.two 0 h b (Ne.symm hz) h1 h2
    · by_cases hz : g = 0
      · exact k1 hz e2
      · exact ap.two g 0 b hz h1 h2
    · exact ap.two g h b hgh h1 h2
  · rcases from0 g b hg with ⟨_, _, h1⟩ | ⟨_, h1, _⟩ <;> exact ap.shr _ b h1
  · rcases from0 g b hg with ⟨_, _, h1⟩ | ⟨_, h1, _⟩ <;> exact ap.sh _ b h1
  · rcases from0 g b hg with ⟨_, _, h1⟩ | ⟨_, h1, _⟩ <;> exact ap.lo _ b h1
  · obtain ⟨m, tm, x⟩ := hch
    rw [he]
    exact ⟨m, tm, x⟩
  · simp only [Array.size_push, Array.size_setIfInBounds]
    rcases hj with hj | hj
    · have := hI'.kin j hj; omega
    · omega
end
end Go.Proofs.YtgcbcagaibecbaaGreatDoor.Pool

namespace Go.Proofs.YtgcbcagaibecbaaGreatDoor.Pool
set_option maxRecDepth 20000
open Go Go.Conc Gap
open Go.ConcN (upd upd_same upd_ne WgLive PayAt RW sumTo sumTo_upd)
open Go.ConcR (WgAt stA smA KK Payload DC0 mk)

section
variable {P : Program} {Shun : Loc → Prop} {Sh Z K : Nat → Prop} {Sit Sit' : Nat → Nat → (Nat → Prop) → Goroutine → World → Prop} {gs gs' : Array Goroutine} {W W' : World} {t : Trace} {O O' : Nat → Nat → Prop} {xp xq : Goroutine} {p q c m s : Nat} {tm : Bool} {x0 x1 x2 x3 : MemOp}

theorem rely_chan {O Z : Nat → Prop} (hO : ¬ O c) (hZ : ¬ Z c) (d : Nat) (x y : Nat) (cl : Bool) : Rely O Z W ((W.at d).setChan c 0 #[] cl x y tm) := by
  refine ⟨rfl, rfl, rfl, by simp [World.setChan, World.at], fun b hb => ?_⟩
  have : c ≠ b := by rintro rfl; exact hb.elim hO hZ
  simp only [World.setChan, World.at, Array.getElem?_setIfInBounds_ne this]

theorem Core.meet (h : Core Shun Sh Z K Sit gs W t O) (hpq : p ≠ q) (hsz : gs'.size = gs.size) (hoth : ∀ k, k ≠ p → k ≠ q → gs'[k]? = gs[k]?) (hp : gs'[p]? = some xp) (hq : gs'[q]? = some xq) (hc : Sh c) (hcz : ¬ Z c) {d x y : Nat} {cl : Bool} (hW : W' = (W.at d).setChan c 0 #[] cl x y tm)
    (h0 : x0.g = p ∧ x0.act = .send c s) (h1 : x1.g = q ∧ x1.act = .recv c s m) (h2 : x2.g = p ∧ x2.act = .sendDone c s) (h3 : x3.g = q ∧ x3.act = .recvDone c s) (dp : Deaf t p = 0) (dq : Deaf t q = 0)
    (hOp : ∀ b, O' p b → O p b) (hOq : ∀ b, O' q b → O q b ∨ (O p b ∧ ¬ O' p b)) (hOo : ∀ k, k ≠ p → k ≠ q → O' k = O k)
    (hw : ∀ k x, k ≠ p → k ≠ q → gs[k]? = some x → Sit k (Deaf t k) (O k) x W → Rely (O k) Z W W' → Sit' k (Deaf t k) (O k) x W') (sp : Sit' p 0 (O' p) xp W') (sq : Sit' q 0 (O' q) xq W') :
    Core Shun Sh Z K Sit' gs' W' (t ++ #[x0, x1, x2, x3]) O' := by
  have ap := h.apart
  have hu : ∀ op ∈ #[x0, x1, x2, x3], op.act.touch? = none ∧ (∀ a, op.act ≠ .mark (.release a)) ∧ op.act ≠ .mark .disable ∧ op.act ≠ .mark .enable := by
    intro op hop
    simp at hop
    rcases hop with rfl | rfl | rfl | rfl
    · rw [h0.2]; simp [MemAct.touch?]
    · rw [h1.2]; simp [MemAct.touch?]
    · rw [h2.2]; simp [MemAct.touch?]
    · rw [h3.2]; simp [MemAct.touch?]
  have hD : ∀ j, Deaf (t ++ #[x0, x1, x2, x3]) j = Deaf t j := fun j => Deaf_flat (fun op hop => (hu op hop).2.2) j
  have hsize : W'.heap.size = W.heap.size := by rw [hW]; simp [World.setChan, World.at]
  have from0 : ∀ k b, O' k b → (O k b ∧ (k = p → O' p b)) ∨ (k = q ∧ O p b ∧ ¬ O' p b) := fun k b hb => by
    by_cases k1 : k = p
    · subst k1; exact .inl ⟨hOp b hb, fun _ => hb⟩
    · by_cases k2 : k = q
      · subst k2
        rcases hOq b hb with x | x
        · exact .inl ⟨x, fun e => absurd e k1⟩
        · exact .inr ⟨rfl, x⟩
      · rw [hOo k k1 k2] at hb
        exact .inl ⟨hb, fun e => absurd e k1⟩
  refine ⟨fun k g hk => ?_, fun j hj => (hD j).trans (h.above j (by omega)), ?_, ⟨fun g k b hgk hg hk => ?_, fun g b hg => ?_, fun g b hg => ?_, ap.zsh, fun g b hg => ?_, fun b hb => ?_, fun b hb => ?_⟩⟩
  · rw [hD]
    by_cases k1 : k = p
    · subst k1
      rw [hp] at hk
      cases hk
      rw [dp]
      exact sp
    · by_cases k2 : k = q
      · subst k2
        rw [hq] at hk
        cases hk
        rw [dq]
        exact sq
      · rw [hoth k k1 k2] at hk
        rw [hOo k k1 k2]
        refine hw k g k1 k2 hk (h.sit k g hk) ?_
        rw [hW]
        exact rely_chan (fun x => ap.sh k c x hc) hcz d x y cl
  · rw [hsize]
    refine h.tok.move (fun op hop => ⟨(hu op hop).1, (hu op hop).2.1⟩) (fun g b hb => ?_) (fun g hg => .inr (.inl hg)) fun g hg => hg
    rcases from0 g b hb with ⟨x, _⟩ | ⟨rfl, x, _⟩
    · exact ⟨g, x, fun i hk => hk.app _⟩
    · exact ⟨p, x, fun i hk => meet_knows h0 h1 h2 h3 dp dq hk⟩
  · rcases from0 g b hg with ⟨a1, b1⟩ | ⟨rfl, a1, n1⟩ <;> rcases from0 k b hk with ⟨a2, b2⟩ | ⟨rfl, a2, n2⟩
    · exact ap.two g k b hgk a1 a2
    · by_cases e : g = p
      · exact n2 (b1 e)
      · exact ap.two g p b e a1 a2
    · by_cases e : k = p
      · exact n1 (b2 e)
      · exact ap.two k p b e a2 a1
    · exact hgk rfl
  · rcases from0 g b hg with ⟨x, _⟩ | ⟨_, x, _⟩ <;> exact ap.shr _ b x
  · rcases from0 g b hg with ⟨x, _⟩ | ⟨_, x, _⟩ <;> exact ap.sh _ b x
  · rw [hsize]
    rcases from0 g b hg with ⟨x, _⟩ | ⟨_, x, _⟩ <;> exact ap.lo _ b x
  · rw [hsize]; exact ap.loZ b hb
  · rw [hsize]; exact ap.loS b hb

theorem chan_set (h : ∃ a b tm', W.heap[c]? = some (.chan 0 #[] false a b tm')) (d x : Nat) : Chan c ((W.at d).setChan c 0 #[] false x x tm) := by
  obtain ⟨_, _, _, h⟩ := h
  have hlt : c < W.heap.size := (Array.getElem?_eq_some_iff.1 h).1
  refine ⟨x, tm, ?_⟩
  simp only [World.setChan, World.at]
  exact Array.getElem?_setIfInBounds_self_of_lt hlt
theorem chan_other {c' : Nat} (h : Chan c' W) (hne : c ≠ c') (d x y : Nat) (cl : Bool) : Chan c' ((W.at d).setChan c 0 #[] cl x y tm) := by
  obtain ⟨a, b, h⟩ := h
  refine ⟨a, b, ?_⟩
  simp only [World.setChan, World.at, Array.getElem?_setIfInBounds_ne hne]
  exact h
end

section
variable [Payload] {X : Shop} {st d : Nat} {tk : Option Nat} {r : Rk} {O : Nat → Prop} {x : Goroutine} {W : World}
theorem WS.nine (ok : X.Ok) (h : WS X 9 tk r d O x W) : d = 0 ∧ (x.status = .running ∨ (tk = none ∧ ∃ C g, x = parked g #[rcase X.ct X.zt] (.recv true) ∧ (∀ W1, RO X C W W1 → X.AR C g W1) ∧ Has2 O C) ∨
    ∃ i C v g, tk = some i ∧ x = parked g #[scase X.cb v X.zb] .send ∧ (∀ W1, Rely O X.Z W W1 → X.AS i C O g W1) ∧ (∀ w, stepG X.P false g w = .comm g #[scase X.cb v X.zb] true .send w #[]) ∧ Has2 O C) := by
  generalize hst : (9 : Nat) = st at h
  cases h with
  | recv h hC => exact ⟨rfl, .inl (Goes.running (fun g w h => (ok.ar _ g w h).1) W (.refl W) h)⟩
  | parkR h hC => exact ⟨rfl, .inr (.inl ⟨rfl, _, _, rfl, h, hC⟩)⟩
  | wake h hC => exact ⟨rfl, .inl rfl⟩
  | task h hC => exact ⟨rfl, .inl (h.run fun O g W h => (ok.asn _ _ O g W h).1)⟩
  | parkS h hs hC => exact ⟨rfl, .inr (.inr ⟨_, _, _, _, rfl, rfl, h, hs, hC⟩)⟩
  | _ => omega
theorem WS.one (h : WS X 1 tk r d O x W) : x.status ≠ .blocked := by
  generalize hst : (1 : Nat) = st at h
  cases h with
  | quit h => rcases h.status with e | e <;> rw [e] <;> simp
  | _ => omega
omit [Payload] in
theorem one_case {cs : Array CommCase} {c0 cc : CommCase} {k : Nat} (h : cs = #[c0]) (hk : cs[k]? = some cc) : k = 0 ∧ cc = c0 := by
  subst h
  obtain ⟨hlt, e⟩ := Array.getElem?_eq_some_iff.1 hk
  have : k = 0 := by simp at hlt; omega
  subst this
  exact ⟨rfl, e.symm⟩
omit [Payload] in
theorem two_cases {c0 c1 cc : CommCase} {k : Nat} (hk : #[c0, c1][k]? = some cc) : (k = 0 ∧ cc = c0) ∨ (k = 1 ∧ cc = c1) := by
  obtain ⟨hlt, e⟩ := Array.getElem?_eq_some_iff.1 hk
  have : k = 0 ∨ k = 1 := by simp at hlt; omega
  rcases this with rfl | rfl
  · exact .inl ⟨rfl, e.symm⟩
  · exact .inr ⟨rfl, e.symm⟩
theorem WS.next_task (ok : X.Ok) {i : Nat} (h : WS X st (some i) r d O x W) (hrun : x.status = .running) : st = 9 ∧ d = 0 ∧
    ((∃ g' W' es r', stepG X.P false x W = .go g' W' es ∧ Guar O X.Z W W' es ∧ Rk.Sub r' r ∧ WS X 9 (some i) r' 0 (grow O W W') g' W' ∧ g'.status = .running) ∨
    ∃ C v r', (∀ W1, Rely O X.Z W W1 → X.AS i C O x W1) ∧ (∀ w, stepG X.P false x w = .comm x #[scase X.cb v X.zb] true .send w #[]) ∧ Has2 O C ∧ Rk.Sub r' r) := by
  generalize htk : some i = tk at h
  cases h with
  | @task i' C r O g W h hC =>
    cases htk
    refine ⟨rfl, rfl, ?_⟩
    rcases h.cases with hk | ⟨_, hk⟩
    · obtain ⟨_, v, hs, _⟩ := ok.asn _ _ _ _ _ (hk W (.refl W))
      obtain ⟨r', hr'⟩ := r.up_pos
      exact .inr ⟨C, v, r', hk, hs, hC, hr'⟩
    · obtain ⟨g', W', es, r', e1, e2, e3, e4⟩ := hk W (.refl W)
      exact .inl ⟨g', W', es, r'.up, e1, e2, Rk.up_sub e3, .task e4 (fun b hb => .inl (hC b hb)), e4.run fun O g W h => (ok.asn _ _ O g W h).1⟩
  | parkS h hs hC => cases hrun
  | _ => cases htk
end
end Go.Proofs.YtgcbcagaibecbaaGreatDoor.Pool

namespace Go.Proofs.YtgcbcagaibecbaaGreatDoor.Pool
set_option maxRecDepth 20000
open Go Go.Conc Gap
open Go.ConcN (upd upd_same upd_ne WgLive PayAt RW sumTo sumTo_upd)
open Go.ConcR (WgAt stA smA KK Payload DC0 mk)

section
variable [Payload] (X : Shop) (zs : Value)
def selc (next : Nat) : Array CommCase := #[if next < X.many then scase X.ct (.int .i64 next) zs else { chan := .chan none, send := some (.int .i64 next), zero := zs }, rcase X.cb X.zr]
def left (done : Nat → Bool) : Nat := sumTo X.many fun i => if done i then 0 else 1
variable (SEL : Nat → (Nat → Bool) → (Nat → Prop) → Goroutine → World → Prop)
structure Starter : Prop where
  sel : ∀ next done O g W, SEL next done O g W → next ≤ X.many ∧ ((next < X.many ∨ ∃ i, i < next ∧ done i = false) → g.status = .running ∧ (∀ w, stepG X.P true g w = .comm g (selc X zs next) true .select w #[]) ∧
    (next < X.many → Way0 X.P true X.Z (SEL (next + 1) done) O (g.finishComm X.P (selc X zs next) .select 0 undef false) W) ∧
    (∀ i v T, i < next → done i = false → X.Res i v T W → (∀ b, T b → ¬ O b ∧ ¬ X.Z b) → Way0 X.P true X.Z (SEL next (upd done i true)) (fun b => O b ∨ T b) (g.finishComm X.P (selc X zs next) .select 1 v true) W))

inductive SS (next : Nat) (done : Nat → Bool) : Rk → (Nat → Prop) → Goroutine → World → Prop
  | run {r : Rk} {O : Nat → Prop} {g : Goroutine} {W : World} : RWay X.P true X.Z (SEL next done) r O g W → SS next done r.up O g W
  | park {r : Rk} {O : Nat → Prop} {g : Goroutine} {W : World} : (∀ W1, Rely O X.Z W W1 → SEL next done O g W1) → (∀ w, stepG X.P true g w = .comm g (selc X zs next) true .select w #[]) → (next < X.many ∨ ∃ i, i < next ∧ done i = false) → SS next done r O (parked g (selc X zs next) .select) W

def PSit (K : Nat → Prop) (next : Nat) (done : Nat → Bool) (tk : Nat → Option Nat) (ρ : Nat → Rk) (j d : Nat) (Oj : Nat → Prop) (x : Goroutine) (W : World) : Prop :=
  (j = 0 → d = 0 ∧ SS X zs SEL next done (ρ 0) Oj x W) ∧ (j ≠ 0 → ∃ st, WS X st (tk j) (ρ j) d Oj x W ∧ (st = 1 ∧ ¬ K j ∨ st = 9 ∧ K j))

structure Places (Sh : Nat → Prop) : Prop where
  ct : Sh X.ct
  cb : Sh X.cb
  wg : Sh X.Wg
  tb : X.ct ≠ X.cb
  tw : X.ct ≠ X.Wg
  bw : X.cb ≠ X.Wg

structure Pool (Shun : Loc → Prop) (Sh K : Nat → Prop) (ow : Option Obj) (kz : Nat → Option Obj) (next : Nat) (done : Nat → Bool) (tk : Nat → Option Nat) (ρ : Nat → Rk) (gs : Array Goroutine) (W : World) (t : Trace) (O : Nat → Nat → Prop) : Prop where
  core : Core Shun Sh X.Z K (PSit X zs SEL K next done tk ρ) gs W t O
  cht : Chan X.ct W
  chb : Chan X.cb W
  kin : ∀ j, K j → 0 < j ∧ j < gs.size
  tin : ∀ j i, tk j = some i → K j ∧ i < next ∧ done i = false
  tinj : ∀ j j' i, tk j = some i → tk j' = some i → j = j'
  dlt : ∀ i, done i = true → i < next
  tall : ∀ i, i < next → done i = false → ∃ j, tk j = some i
  park : ∀ a, gs[0]? = some a → a.status = .blocked → ∀ j x, j ≠ 0 → gs[j]? = some x → x.status = .blocked → next = X.many ∧ tk j = none
  wgo : W.heap[X.Wg]? = ow
  zk : ∀ b, X.Z b → W.heap[b]? = kz b
end

section
variable [Payload] {X : Shop} {zs : Value} {SEL : Nat → (Nat → Bool) → (Nat → Prop) → Goroutine → World → Prop} {Shun : Loc → Prop} {Sh K : Nat → Prop} {ow : Option Obj} {kz : Nat → Option Obj} {next : Nat} {done : Nat → Bool} {tk : Nat → Option Nat} {ρ : Nat → Rk} {gs gs' : Array Goroutine} {W W' : World} {t : Trace} {O : Nat → Nat → Prop}
  {sl : Option (Nat × Nat)} {j d m : Nat} {tm : Bool} {x0 x1 x2 x3 : MemOp} {C : Nat} {a0 g0 : Goroutine}

omit [Payload] in
theorem SS.rely {r : Rk} {Oj : Nat → Prop} {x : Goroutine} {W1 : World} (h : SS X zs SEL next done r Oj x W) (hr : Rely Oj X.Z W W1) : SS X zs SEL next done r Oj x W1 := by
  cases h with
  | run h => exact .run (h.rely hr)
  | park h hs hc => exact .park (fun W2 h2 => h W2 (hr.trans h2)) hs hc

omit [Payload] in
theorem wg_chan (pl : Places X Sh) {c x y : Nat} {cl : Bool} (hc : c = X.ct ∨ c = X.cb) : ((W.at d).setChan c 0 #[] cl x y tm).heap[X.Wg]? = W.heap[X.Wg]? := by
  have hne : c ≠ X.Wg := by rcases hc with rfl | rfl; exact pl.tw; exact pl.bw
  simp only [World.setChan, World.at, Array.getElem?_setIfInBounds_ne hne]
omit [Payload] in
theorem z_chan (pl : Places X Sh) (hz : ∀ b, X.Z b → ¬ Sh b) {c x y : Nat} {cl : Bool} (hc : c = X.ct ∨ c = X.cb) {b : Nat} (hb : X.Z b) : ((W.at d).setChan c 0 #[] cl x y tm).heap[b]? = W.heap[b]? := by
  have hne : c ≠ b := by
    rintro rfl
    rcases hc with rfl | rfl
    · exact hz _ hb pl.ct
    · exact hz _ hb pl.cb
  simp only [World.setChan, World.at, Array.getElem?_setIfInBounds_ne hne]
omit [Payload] in
theorem live_chan (pl : Places X Sh) {c x y : Nat} {cl : Bool} (hc : c = X.ct ∨ c = X.cb) (h : WgLive X.ty X.Wg W) : WgLive X.ty X.Wg ((W.at d).setChan c 0 #[] cl x y tm) := by
  obtain ⟨st, sm, h⟩ := h
  have hne : c ≠ X.Wg := by rcases hc with rfl | rfl; exact pl.tw; exact pl.bw
  refine ⟨st, sm, ?_⟩
  show ((W.at d).setChan c 0 #[] cl x y tm).heap[X.Wg]? = _
  simp only [World.setChan, World.at, Array.getElem?_setIfInBounds_ne hne]
  exact h
omit [Payload] in
theorem ro_chan (pl : Places X Sh) (hz : ∀ b, X.Z b → ¬ Sh b) {c x y : Nat} {cl : Bool} (hc : c = X.ct ∨ c = X.cb) (hC : ∀ b, Mine C b → ¬ Sh b) : RO X C W ((W.at d).setChan c 0 #[] cl x y tm) := by
  have hs : Sh c := by rcases hc with rfl | rfl; exact pl.ct; exact pl.cb
  refine ⟨fun b hb => ?_, live_chan pl hc⟩
  have hne : c ≠ b := by
    rintro rfl
    rcases hb with hb | hb
    · exact hC c hb hs
    · exact hz c hb hs
  simp only [World.setChan, World.at, Array.getElem?_setIfInBounds_ne hne]

def LiveO (ty : TypeId) (ow : Option Obj) : Prop := ∃ st sm, ow = some (Go.ConcR.wgBlock ty st sm)
theorem Pool.give (ok : X.Ok) (so : Starter X zs SEL) (pl : Places X Sh) (hlv : LiveO X.ty ow) (h : Pool X zs SEL Shun Sh K ow kz next done tk ρ gs W t O) (hlt : next < X.many) (ha : ∀ W1, Rely (O 0) X.Z W W1 → SEL next done (O 0) a0 W1) (hk : K j) (htk : tk j = none)
    (hg : ∀ W1, RO X C W W1 → X.AR C g0 W1) (hC : Has2 (O j) C) (hsz : gs'.size = gs.size) (hoth : ∀ k, k ≠ 0 → k ≠ j → gs'[k]? = gs[k]?) (hp : gs'[0]? = some (a0.finishComm X.P (selc X zs next) .select 0 undef false)) (hq : gs'[j]? = some (Go.Conc.served g0 (.tuple #[.int .i64 next, .bool true])))
    (hW : W' = (W.at d).setChan X.ct 0 #[] false (m + 1) (m + 1) tm) (h0 : x0.g = 0 ∧ x0.act = .send X.ct m) (h1 : x1.g = j ∧ x1.act = .recv X.ct m 0) (h2 : x2.g = 0 ∧ x2.act = .sendDone X.ct m) (h3 : x3.g = j ∧ x3.act = .recvDone X.ct m) :
    ∃ ρ' O', Pool X zs SEL Shun Sh K ow kz (next + 1) done (upd tk j (some next)) ρ' gs' W' (t ++ #[x0, x1, x2, x3]) O' := by
  have hj : 0 ≠ j := by have := (h.kin j hk).1; omega
  have ap := h.core.apart
  have hcz : ¬ X.Z X.ct := fun x => ap.zsh _ x pl.ct
  obtain ⟨r0, hr0⟩ := ranked (((so.sel _ _ _ _ _ (ha W (.refl W))).2 (.inl hlt)).2.2.1 hlt)
  obtain ⟨rj, hrj⟩ := ranked ((ok.ar C g0 W (hg W (.refl W))).2.2.1 next hlt)
  have hasize : 0 < gs.size := by have := h.kin j hk; omega
  obtain ⟨a, haa⟩ : ∃ a, gs[0]? = some a := ⟨gs[0], Array.getElem?_eq_getElem hasize⟩
  obtain ⟨y, hyy⟩ : ∃ a, gs[j]? = some a := ⟨gs[j]'(h.kin j hk).2, Array.getElem?_eq_getElem (h.kin j hk).2⟩
  have d0 : Deaf t 0 = 0 := ((h.core.sit 0 a haa).1 rfl).1
  have dj : Deaf t j = 0 := by
    obtain ⟨st, hw, hc⟩ := (h.core.sit j y hyy).2 (Ne.symm hj)
    rcases hc with ⟨_, x⟩ | ⟨rfl, _⟩
    · exact absurd hk x
    · exact (hw.nine ok).1
  have relC : ∀ Oj : Nat → Prop, ¬ Oj X.ct → Rely Oj X.Z W W' := fun Oj hn => by rw [hW]; exact rely_chan hn hcz d _ _ false
  refine ⟨upd (upd ρ 0 r0.up) j rj.up, upd O j (Mine C), ⟨?_, ?_, ?_, fun k hk => by rw [hsz]; exact h.kin k hk, fun k i hi => ?_, fun k k' i hi hi' => ?_, fun i hd => Nat.lt_succ_of_lt (h.dlt i hd), fun i hi hd => ?_, fun a hb hbl => ?_, by rw [hW]; exact (wg_chan pl (by simp)).trans h.wgo, fun b hb => by rw [hW]; exact (z_chan pl ap.zsh (by simp) hb).trans (h.zk b hb)⟩⟩
  · refine h.core.meet (gs' := gs') hj hsz hoth hp hq pl.ct hcz hW h0 h1 h2 h3 d0 dj (fun b hb => by rwa [upd_ne _ _ hj] at hb) (fun b hb => by rw [upd_same] at hb; exact .inl (hC b hb)) (fun k _ hk => upd_ne _ _ hk) (fun k x k1 k2 hx hs hr => ⟨fun e => absurd e k1, fun _ => ?_⟩) ⟨fun _ => ⟨rfl, ?_⟩, fun e => absurd rfl e⟩ ⟨fun e => absurd e.symm hj, fun _ => ⟨9, ?_, .inr ⟨rfl, hk⟩⟩⟩
    · obtain ⟨st, hw, hc⟩ := hs.2 k1
      refine ⟨st, ?_, hc⟩
      rw [upd_ne _ _ k2, upd_ne _ _ k2, upd_ne _ _ k1]
      exact hw.rely fun _ => ⟨hr, fun x => by rw [hW]; exact live_chan pl (.inl rfl) x⟩
    · rw [upd_ne _ _ hj, upd_ne _ _ hj, upd_same]
      exact .run (hr0.rely (relC _ fun x => ap.sh 0 _ x pl.ct))
    · rw [upd_same, upd_same, upd_same]
      exact .task (hrj.rely (relC _ fun x => ap.sh j _ (hC _ x) pl.ct)) fun b hb => hb
  · rw [hW]
    obtain ⟨_, _, e⟩ := h.cht
    exact chan_set ⟨_, _, _, e⟩ d _
  · rw [hW]; exact chan_other h.chb pl.tb d _ _ _
  · by_cases hkj : k = j
    · subst hkj
      rw [upd_same] at hi
      cases hi
      refine ⟨hk, by omega, ?_⟩
      cases hd : done next with
      | false => rfl
      | true => have := h.dlt next hd; omega
    · rw [upd_ne _ _ hkj] at hi
      have := h.tin k i hi
      exact ⟨this.1, by omega, this.2.2⟩
  · by_cases hkj : k = j <;> by_cases hkj' : k' = j
    · rw [hkj, hkj']
    · subst hkj
      rw [upd_same] at hi
      cases hi
      rw [upd_ne _ _ hkj'] at hi'
      have := (h.tin k' _ hi').2.1
      omega
    · subst hkj'
      rw [upd_same] at hi'
      cases hi'
      rw [upd_ne _ _ hkj] at hi
      have := (h.tin k _ hi).2.1
      omega
    · rw [upd_ne _ _ hkj] at hi
      rw [upd_ne _ _ hkj'] at hi'
      exact h.tinj k k' i hi hi'
  · by_cases hin : i = next
    · exact ⟨j, by rw [upd_same, hin]⟩
    · obtain ⟨k, hk'⟩ := h.tall i (by omega) hd
      refine ⟨k, ?_⟩
      rw [upd_ne _ _ (by rintro rfl; rw [htk] at hk'; cases hk')]
      exact hk'
  · rw [hp] at hb
    cases hb
    cases hbl

theorem Pool.take (ok : X.Ok) (so : Starter X zs SEL) (pl : Places X Sh) (hlv : LiveO X.ty ow) {i : Nat} {v : Value} (h : Pool X zs SEL Shun Sh K ow kz next done tk ρ gs W t O) (ha : ∀ W1, Rely (O 0) X.Z W W1 → SEL next done (O 0) a0 W1) (hk : K j) (htk : tk j = some i)
    (hg : ∀ W1, Rely (O j) X.Z W W1 → X.AS i C (O j) g0 W1) (hcomm : ∀ w, stepG X.P false g0 w = .comm g0 #[scase X.cb v X.zb] true .send w #[]) (hC : Has2 (O j) C) (hsz : gs'.size = gs.size) (hoth : ∀ k, k ≠ j → k ≠ 0 → gs'[k]? = gs[k]?) (hp : gs'[0]? = some (a0.finishComm X.P (selc X zs next) .select 1 v true)) (hq : gs'[j]? = some (Go.Conc.served g0 undef))
    (hW : W' = (W.at d).setChan X.cb 0 #[] false (m + 1) (m + 1) tm) (h0 : x0.g = j ∧ x0.act = .send X.cb m) (h1 : x1.g = 0 ∧ x1.act = .recv X.cb m 0) (h2 : x2.g = j ∧ x2.act = .sendDone X.cb m) (h3 : x3.g = 0 ∧ x3.act = .recvDone X.cb m) :
    ∃ ρ' O', Pool X zs SEL Shun Sh K ow kz next (upd done i true) (upd tk j none) ρ' gs' W' (t ++ #[x0, x1, x2, x3]) O' := by
  have hj : j ≠ 0 := by have := (h.kin j hk).1; omega
  have ap := h.core.apart
  have hcz : ¬ X.Z X.cb := fun x => ap.zsh _ x pl.cb
  obtain ⟨_, hin, hdi⟩ := h.tin j i htk
  obtain ⟨_, v', hcomm', hres, hgo⟩ := ok.asn _ _ _ _ _ (hg W (.refl W))
  obtain ⟨st0, sm0, how0⟩ := hlv
  obtain ⟨n, hgo⟩ := hgo ⟨st0, sm0, h.wgo.trans how0⟩
  have hv : v' = v := by
    have := hcomm' W
    rw [hcomm W] at this
    injection this with _ e
    have e := congrArg (fun cs => (cs[0]?).bind (·.send)) e
    simp [scase] at e
    exact e.symm
  subst hv
  obtain ⟨r0, hr0⟩ := ranked (((so.sel _ _ _ _ _ (ha W (.refl W))).2 (.inr ⟨i, hin, hdi⟩)).2.2.2 i v' _ hin hdi hres fun b hb => ⟨fun x => ap.two 0 j b (Ne.symm hj) x hb.1, ap.shr j b hb.1⟩)
  have hasize : 0 < gs.size := by have := h.kin j hk; omega
  obtain ⟨a, haa⟩ : ∃ a, gs[0]? = some a := ⟨gs[0], Array.getElem?_eq_getElem hasize⟩
  obtain ⟨y, hyy⟩ : ∃ a, gs[j]? = some a := ⟨gs[j]'(h.kin j hk).2, Array.getElem?_eq_getElem (h.kin j hk).2⟩
  have d0 : Deaf t 0 = 0 := ((h.core.sit 0 a haa).1 rfl).1
  have dj : Deaf t j = 0 := by
    obtain ⟨st, hw, hc⟩ := (h.core.sit j y hyy).2 hj
    rcases hc with ⟨_, x⟩ | ⟨rfl, _⟩
    · exact absurd hk x
    · exact (hw.nine ok).1
  have relC : ∀ Oj : Nat → Prop, ¬ Oj X.cb → Rely Oj X.Z W W' := fun Oj hn => by rw [hW]; exact rely_chan hn hcz d _ _ false
  refine ⟨upd (upd ρ 0 r0.up) j (.nat (n + 1)), upd (upd O 0 fun b => O 0 b ∨ (O j b ∧ ¬ Mine C b)) j (Mine C), ⟨?_, ?_, ?_, fun k hk => by rw [hsz]; exact h.kin k hk, fun k i' hi => ?_, fun k k' i' hi hi' => ?_, fun i' hd => ?_, fun i' hi hd => ?_, fun a hb hbl => ?_, by rw [hW]; exact (wg_chan pl (by simp)).trans h.wgo, fun b hb => by rw [hW]; exact (z_chan pl ap.zsh (by simp) hb).trans (h.zk b hb)⟩⟩
  · refine h.core.meet (gs' := gs') hj hsz hoth hq hp pl.cb hcz hW h0 h1 h2 h3 dj d0 (fun b hb => by rw [upd_same] at hb; exact hC b hb) (fun b hb => ?_) (fun k hk h0 => by rw [upd_ne _ _ hk, upd_ne _ _ h0]) (fun k x k1 k2 hx hs hr => ⟨fun e => absurd e k2, fun _ => ?_⟩) ⟨fun e => absurd e hj, fun _ => ⟨9, ?_, .inr ⟨rfl, hk⟩⟩⟩ ⟨fun _ => ⟨rfl, ?_⟩, fun e => absurd rfl e⟩
    · rw [upd_ne _ _ (Ne.symm hj), upd_same] at hb
      rw [upd_same]
      exact hb
    · obtain ⟨st, hw, hc⟩ := hs.2 k2
      refine ⟨st, ?_, hc⟩
      rw [upd_ne _ _ k1, upd_ne _ _ k1, upd_ne _ _ k2]
      exact hw.rely fun _ => ⟨hr, fun x => by rw [hW]; exact live_chan pl (.inr rfl) x⟩
    · rw [upd_same, upd_same, upd_same]
      exact .recv (Goes.rely ro_trans hgo (by rw [hW]; exact ro_chan pl ap.zsh (.inr rfl) fun b hb x => ap.sh j b (hC b hb) x)) fun b hb => hb
    · rw [upd_ne _ _ (Ne.symm hj), upd_ne _ _ (Ne.symm hj), upd_same, upd_same]
      exact .run (hr0.rely (relC _ fun x => x.elim (fun x => ap.sh 0 _ x pl.cb) fun x => ap.sh j _ x.1 pl.cb))
  · rw [hW]; exact chan_other h.cht (Ne.symm pl.tb) d _ _ _
  · rw [hW]
    obtain ⟨_, _, e⟩ := h.chb
    exact chan_set ⟨_, _, _, e⟩ d _
  · by_cases hkj : k = j
    · subst hkj
      rw [upd_same] at hi
      cases hi
    · rw [upd_ne _ _ hkj] at hi
      have := h.tin k i' hi
      refine ⟨this.1, this.2.1, ?_⟩
      rw [upd_ne _ _ (by rintro rfl; exact hkj (h.tinj k j _ hi htk))]
      exact this.2.2
  · by_cases hkj : k = j
    · subst hkj
      rw [upd_same] at hi
      cases hi
    · by_cases hkj' : k' = j
      · subst hkj'
        rw [upd_same] at hi'
        cases hi'
      · rw [upd_ne _ _ hkj] at hi
        rw [upd_ne _ _ hkj'] at hi'
        exact h.tinj k k' i' hi hi'
  · by_cases e : i' = i
    · rw [e]; exact hin
    · rw [upd_ne _ _ e] at hd
      exact h.dlt i' hd
  · have e : i' ≠ i := by rintro rfl; rw [upd_same] at hd; cases hd
    rw [upd_ne _ _ e] at hd
    obtain ⟨k, hk'⟩ := h.tall i' hi hd
    refine ⟨k, ?_⟩
    rw [upd_ne _ _ (by rintro rfl; rw [htk] at hk'; cases hk'; exact e rfl)]
    exact hk'
  · rw [hp] at hb
    cases hb
    cases hbl
end
end Go.Proofs.YtgcbcagaibecbaaGreatDoor.Pool

namespace Go.Proofs.YtgcbcagaibecbaaGreatDoor.Pool
set_option maxRecDepth 20000
open Go Go.Conc Gap
open Go.ConcN (upd upd_same upd_ne WgLive PayAt RW sumTo sumTo_upd)
open Go.ConcR (WgAt stA smA KK Payload DC0 mk)

section
variable [Payload] {X : Shop} {zs : Value} {SEL : Nat → (Nat → Bool) → (Nat → Prop) → Goroutine → World → Prop} {Shun : Loc → Prop} {Sh K : Nat → Prop} {ow : Option Obj} {kz : Nat → Option Obj} {next : Nat} {done : Nat → Bool} {tk : Nat → Option Nat} {ρ : Nat → Rk} {gs gs' : Array Goroutine} {W W' : World} {t : Trace} {O : Nat → Nat → Prop} {O' : Nat → Prop}
  {sl : Option (Nat × Nat)} {i : Nat} {g g' : Goroutine} {es : Array Event} {r' : Rk}

omit [Payload] in
theorem left_upd (hi : i < X.many) (hd : done i = false) : left X (upd done i true) + 1 = left X done := by
  have := sumTo_upd done true (fun b => if b then 0 else 1) hi
  simp only [hd] at this
  simpa [left] using this

theorem Pool.at (h : Pool X zs SEL Shun Sh K ow kz next done tk ρ gs W t O) (d : Nat) : Pool X zs SEL Shun Sh K ow kz next done tk ρ gs (W.at d) t O :=
  ⟨h.core.at d fun _ _ _ hs => ⟨fun e => ⟨(hs.1 e).1, (hs.1 e).2.rely (rely_at W d)⟩, fun e => let ⟨st, hw, hc⟩ := hs.2 e; ⟨st, hw.rely fun _ => .at W d, hc⟩⟩, let ⟨m, tm, e⟩ := h.cht; ⟨m, tm, e⟩, let ⟨m, tm, e⟩ := h.chb; ⟨m, tm, e⟩, h.kin, h.tin, h.tinj, h.dlt, h.tall, h.park, h.wgo, h.zk⟩

omit [Payload] in
theorem opened_selc (h1 : Chan X.ct W) (h2 : Chan X.cb W) : ∀ cc ∈ selc X zs next, Opened W cc := by
  intro cc hcc
  simp only [selc, List.mem_toArray, List.mem_cons, List.not_mem_nil, or_false] at hcc
  rcases hcc with rfl | rfl
  · split
    · obtain ⟨m, tm, e⟩ := h1
      exact .inr ⟨X.ct, m, tm, rfl, e⟩
    · exact .inl rfl
  · obtain ⟨m, tm, e⟩ := h2
    exact .inr ⟨X.cb, m, tm, rfl, e⟩

theorem Pool.sleeps (ok : X.Ok) {Oj : Nat → Prop} {j : Nat} {x : Goroutine} {d : Nat} (h1 : Chan X.ct W') (h2 : Chan X.cb W') (hs : PSit X zs SEL K next done tk ρ j d Oj x W) (hr : j = 0 → x.status = .running ∨ ∃ g0, x = parked g0 (selc X zs next) .select) (a a' : Goroutine) : Go.Conc.woken X.P a a' W' x = x := by
  by_cases hj : j = 0
  · rcases hr hj with h | ⟨g0, rfl⟩
    · exact woken_run h
    · exact woken_id (again_open (opened_selc h1 h2))
  · obtain ⟨st, hw, _⟩ := hs.2 hj
    exact hw.woken ok (fun _ => h1) (fun _ => h2) a a'

theorem Pool.own (ok : X.Ok) (h : Pool X zs SEL Shun Sh K ow kz next done tk ρ gs W t O) (hz : ∀ x, gs[0]? = some x → x.status = .running ∨ ∃ g0, x = parked g0 (selc X zs next) .select) (hi : gs[i]? = some g) (hg : i = 0 ∨ K i) (hf : Fine Sh X.Z (O i) O' i W W' es) (hflat : deafBehind 0 es = 0) (hwgo : W'.heap[X.Wg]? = W.heap[X.Wg]?) (h1 : Chan X.ct W') (h2 : Chan X.cb W')
    (hs0 : i = 0 → SS X zs SEL next done r' O' g' W') (hs1 : i ≠ 0 → WS X 9 (tk i) r' 0 O' g' W') (hnb : g'.status ≠ .blocked) (hd : Deaf t i = 0) (fn : FuncId) (pos : String) :
    Pool X zs SEL Shun Sh K ow kz next done tk (upd ρ i r') ((gs.map (Go.Conc.woken X.P g g' W')).setIfInBounds i g') W' (t ++ MemOp.ofEvents i fn pos es) (upd O i O') := by
  have hlive : WgLive X.ty X.Wg W → WgLive X.ty X.Wg W' := fun ⟨st, sm, x⟩ => ⟨st, sm, hwgo.trans x⟩
  have hwk : ∀ j x, gs[j]? = some x → Go.Conc.woken X.P g g' W' x = x := fun j x hx => Pool.sleeps ok h1 h2 (h.core.sit j x hx) (fun e => hz x (by subst e; exact hx)) g g'
  have hget : ∀ j, j ≠ i → ((gs.map (Go.Conc.woken X.P g g' W')).setIfInBounds i g')[j]? = gs[j]? := fun j hj => by
    rw [Array.getElem?_setIfInBounds_ne (Ne.symm hj), Array.getElem?_map]
    cases hx : gs[j]? with
    | none => rfl
    | some x => simp [hwk j x hx]
  have hlt : i < gs.size := (Array.getElem?_eq_some_iff.1 hi).1
  have hself : ((gs.map (Go.Conc.woken X.P g g' W')).setIfInBounds i g')[i]? = some g' := Array.getElem?_setIfInBounds_self_of_lt (by simpa using hlt)
  refine ⟨h.core.own (Sit' := PSit X zs SEL K next done tk (upd ρ i r')) hi hg hf (fun j x hj hx hs hr => ?_) ⟨fun e => ?_, fun e => ?_⟩ fn pos, h1, h2, fun j hj => by simpa using h.kin j hj, h.tin, h.tinj, h.dlt, h.tall, fun a ha hb j x hj hx hxb => ?_, hwgo.trans h.wgo, fun b hb => (hf.keep b (h.core.apart.loZ b hb) (fun x => h.core.apart.shr i b x hb) (h.core.apart.zsh b hb)).trans (h.zk b hb)⟩
  · rw [hwk j x hx]
    refine ⟨fun e => ⟨(hs.1 e).1, ?_⟩, fun e => ?_⟩
    · subst e
      rw [upd_ne _ _ hj]
      exact (hs.1 rfl).2.rely hr
    · obtain ⟨st, hw, hc⟩ := hs.2 e
      refine ⟨st, ?_, hc⟩
      rw [upd_ne _ _ hj]
      exact hw.rely fun _ => ⟨hr, hlive⟩
  · subst e
    rw [upd_same, hd]
    exact ⟨hflat, hs0 rfl⟩
  · refine ⟨9, ?_, .inr ⟨rfl, hg.resolve_left e⟩⟩
    rw [upd_same, hd, hflat]
    exact hs1 e
  · by_cases hi0 : i = 0
    · subst hi0
      rw [hself] at ha
      cases ha
      exact absurd hb hnb
    · rw [hget 0 (Ne.symm hi0)] at ha
      by_cases hji : j = i
      · subst hji
        rw [hself] at hx
        cases hx
        exact absurd hxb hnb
      · rw [hget j hji] at hx
        exact h.park a ha hb j x hj hx hxb

theorem Pool.put (h : Pool X zs SEL Shun Sh K ow kz next done tk ρ gs W t O) (hi : gs[i]? = some g) (hg : i = 0 ∨ K i) (hs0 : i = 0 → SS X zs SEL next done r' (O 0) g' W) (hs1 : i ≠ 0 → WS X 9 (tk i) r' 0 (O i) g' W) (hd : Deaf t i = 0)
    (hp : ∀ a, (gs.setIfInBounds i g')[0]? = some a → a.status = .blocked → ∀ j x, j ≠ 0 → (gs.setIfInBounds i g')[j]? = some x → x.status = .blocked → next = X.many ∧ tk j = none) :
    Pool X zs SEL Shun Sh K ow kz next done tk (upd ρ i r') (gs.setIfInBounds i g') W t O := by
  refine ⟨h.core.put hi (fun j x hj hx hs => ⟨fun e => ⟨(hs.1 e).1, ?_⟩, fun e => ?_⟩) ⟨fun e => ?_, fun e => ?_⟩, h.cht, h.chb, fun j hj => by simpa using h.kin j hj, h.tin, h.tinj, h.dlt, h.tall, hp, h.wgo, h.zk⟩
  · subst e
    rw [upd_ne _ _ hj]
    exact (hs.1 rfl).2
  · obtain ⟨st, hw, hc⟩ := hs.2 e
    exact ⟨st, by rw [upd_ne _ _ hj]; exact hw, hc⟩
  · subst e
    rw [upd_same]
    exact ⟨hd, hs0 rfl⟩
  · refine ⟨9, ?_, .inr ⟨rfl, hg.resolve_left e⟩⟩
    rw [upd_same, hd]
    exact hs1 e

def Turn (X : Shop) (zs : Value) (SEL : Nat → (Nat → Bool) → (Nat → Prop) → Goroutine → World → Prop) (Shun : Loc → Prop) (Sh K : Nat → Prop) (ow : Option Obj) (kz : Nat → Option Obj) (next : Nat) (done : Nat → Bool) (ρ : Nat → Rk) (n : Nat) (t : Trace) (m' : Machine) (ops : Trace) : Prop :=
  ∃ next' done' ρ' tk' gs' W' O' sl', m' = crowd gs' W' sl' ∧ gs'.size = n ∧ Pool X zs SEL Shun Sh K ow kz next' done' tk' ρ' gs' W' (t ++ ops) O' ∧ ((next' = next ∧ done' = done ∧ Dec n ρ' ρ) ∨ (X.many - next') + left X done' < (X.many - next) + left X done)

omit [Payload] in
theorem parked_inj {g1 : Goroutine} {c1 : Array CommCase} {s1 : CommShape} {cs : Array CommCase} {sh : CommShape} (h : (parked g1 c1 s1).offers = some (cs, sh)) : cs = c1 ∧ sh = s1 := by
  simp only [parked, Option.some.injEq, Prod.mk.injEq] at h
  exact ⟨h.1.symm, h.2.symm⟩

theorem Pool.worker (ok : X.Ok) (so : Starter X zs SEL) (pl : Places X Sh) (hlv : LiveO X.ty ow) (h : Pool X zs SEL Shun Sh K ow kz next done tk ρ gs W t O) {a : Goroutine} (h0 : gs[0]? = some a) (hS : a.status = .running ∨ ∃ g0, a = parked g0 (selc X zs next) .select ∧ (∀ W1, Rely (O 0) X.Z W W1 → SEL next done (O 0) g0 W1) ∧ (next < X.many ∨ ∃ i, i < next ∧ done i = false))
    (hi0 : i ≠ 0) (hi : gs[i]? = some g) (hrun : g.status = .running) : ∃ m' ops, runT X.P (crowd gs W sl) i = (.next m', ops) ∧ Turn X zs SEL Shun Sh K ow kz next done ρ gs.size t m' ops := by
  have hi0' : (i == 0) = false := by simpa using hi0
  have hlt : i < gs.size := (Array.getElem?_eq_some_iff.1 hi).1
  have ap := h.core.apart
  have hz : ∀ x, gs[0]? = some x → x.status = .running ∨ ∃ g0, x = parked g0 (selc X zs next) .select := fun x hx => by
    rw [h0] at hx
    cases hx
    exact hS.imp id fun ⟨g0, e, _⟩ => ⟨g0, e⟩
  obtain ⟨st, hw, hc⟩ := (h.core.sit i g hi).2 hi0
  cases htk : tk i with
  | none =>
    rw [htk] at hw
    rcases hw.next ok (hc.elim (fun x => .inl x.1) (fun x => .inr x.1)) hrun with ⟨g', es, r', e, hsub, hw', hnb, h1, h9⟩ | ⟨rfl, hd, C, g0, r', hC0, hcomm, hAR, hsub⟩
    · refine ⟨_, _, runT_crowd_go (P := X.P) (sl := sl) (i := i) hi (by rw [hi0']; exact e), next, done, upd ρ i r', tk, _, W, O, sl, rfl, by simp, ?_, .inl ⟨rfl, rfl, .of hlt hsub⟩⟩
      rcases hc with ⟨rfl, hk⟩ | ⟨rfl, hk⟩
      · have hwk : ∀ j x, gs[j]? = some x → Go.Conc.woken X.P g g' W x = x := fun j x hx => Pool.sleeps ok h.cht h.chb (h.core.sit j x hx) (fun e => hz x (by subst e; exact hx)) g g'
        have hget : ∀ j, j ≠ i → ((gs.map (Go.Conc.woken X.P g g' W)).setIfInBounds i g')[j]? = gs[j]? := fun j hj => by
          rw [Array.getElem?_setIfInBounds_ne (Ne.symm hj), Array.getElem?_map]
          cases hx : gs[j]? with
          | none => rfl
          | some x => simp [hwk j x hx]
        refine ⟨h.core.slip hi (h1 rfl) (fun j x hj hx hs => ?_) ⟨fun e => absurd e hi0, fun _ => ⟨1, by rw [upd_same, htk]; exact hw', .inl ⟨rfl, hk⟩⟩⟩ _ _, h.cht, h.chb, fun j hj => by simpa using h.kin j hj, h.tin, h.tinj, h.dlt, h.tall, fun a' ha hb j x hj hx hxb => ?_, h.wgo, h.zk⟩
        · rw [hwk j x hx]
          refine ⟨fun e => ⟨(hs.1 e).1, ?_⟩, fun e => ?_⟩
          · subst e
            rw [upd_ne _ _ hj]
            exact (hs.1 rfl).2
          · obtain ⟨st, hw, hc⟩ := hs.2 e
            exact ⟨st, by rw [upd_ne _ _ hj]; exact hw, hc⟩
        · rw [hget 0 (Ne.symm hi0)] at ha
          by_cases hji : j = i
          · subst hji
            rw [Array.getElem?_setIfInBounds_self_of_lt (by simpa using hlt)] at hx
            cases hx
            exact absurd hxb hnb
          · rw [hget j hji] at hx
            exact h.park a' ha hb j x hj hx hxb
      · have hd := (hw.nine ok).1
        rw [hd] at hw'
        have hfl : deafBehind 0 es = 0 := flat_evOk (h9 rfl) 0
        rw [hfl] at hw'
        have := h.own (O' := O i) ok hz hi (.inr hk) (.still (fun b hb => ap.lo i b hb) (h9 rfl)) hfl rfl h.cht h.chb (fun e => absurd e hi0) (fun _ => by rw [htk]; exact hw') hnb hd g.frame.fn g.frame.place
        rwa [upd_self] at this
    · have hk : K i := hc.elim (fun x => by omega) (·.2)
      obtain ⟨mt, tmt, hct⟩ := h.cht
      rcases comm_open (P := X.P) (sl := sl) (i := i) hi (by rw [hi0']; exact hcomm W) (fun cc hcc => by simp at hcc; subst hcc; exact .inr ⟨X.ct, mt, tmt, rfl, hct⟩) with ⟨hno, hr⟩ | ⟨gs', w', u, ⟨k, cc, c, m', tm', j, gj, cs', sh', k', cc', d', x0, x1, x2, x3, hkc, hcc, hcw, hji, hj, hb, ho, hk', hch', hs, hgs', hw', hu, e0, e1, e2, e3⟩, hrT⟩
      · refine ⟨_, _, hr, next, done, upd ρ i r', tk, _, W, O, sl, rfl, by simp, ?_, .inl ⟨rfl, rfl, .of hlt hsub⟩⟩
        rw [ofEvents_nil, Array.append_empty]
        refine h.put hi (.inr hk) (fun e => absurd e hi0) (fun _ => by rw [htk]; exact .parkR hAR hC0) hd fun a' ha hb j x hj hx hxb => ?_
        rw [Array.getElem?_setIfInBounds_ne hi0] at ha
        by_cases hji : j = i
        · subst hji
          refine ⟨?_, htk⟩
          rcases hz a' ha with hr' | ⟨g1, rfl⟩
          · rw [hr'] at hb; cases hb
          · by_cases hnm : next < X.many
            · exfalso
              have := hno (rcase X.ct X.zt) (by simp) X.ct rfl 0 _ (Ne.symm hi0) ha
              have hm := mem_offers (h := parked g1 (selc X zs next) .select) (k := 0) (r := X.ct) (cc := scase X.ct (.int .i64 next) zs) hb rfl (by simp [selc, hnm]) rfl
              have e' : offersAt (parked g1 (selc X zs next) .select) X.ct true = [] := this
              have hm' : 0 ∈ offersAt (parked g1 (selc X zs next) .select) X.ct true := hm
              rw [e'] at hm'
              cases hm'
            · rw [h0] at ha
              cases ha
              rcases hS with hS | ⟨g2, e2, hsel, _⟩
              · cases hS
              · have := (so.sel _ _ _ _ _ (hsel W (.refl W))).1
                omega
        · rw [Array.getElem?_setIfInBounds_ne (Ne.symm hji)] at hx
          exact h.park a' ha hb j x hj hx hxb
      · obtain ⟨_, rfl⟩ := one_case rfl hkc
        have hct' : c = X.ct := by injection hcc with e; injection e with e; exact e.symm
        subst hct'
        by_cases hj0 : j = 0
        · subst hj0
          rw [h0] at hj
          cases hj
          rcases hS with hr' | ⟨g1, rfl, hsel, hgo⟩
          · rw [hr'] at hb; cases hb
          · obtain ⟨rfl, rfl⟩ := parked_inj ho
            have hk0 : k' = 0 ∧ next < X.many ∧ cc' = scase X.ct (.int .i64 next) zs := by
              rcases two_cases hk' with ⟨rfl, rfl⟩ | ⟨_, rfl⟩
              · by_cases hnm : next < X.many
                · rw [if_pos hnm]; exact ⟨rfl, hnm, rfl⟩
                · rw [if_neg hnm] at hch'; cases hch'
              · cases hs
            obtain ⟨rfl, hnm, rfl⟩ := hk0
            have hne : (0 : Nat) ≠ i := Ne.symm hi0
            have hlt0 : 0 < gs.size := (Array.getElem?_eq_some_iff.1 h0).1
            have e0' : x0.g = 0 ∧ x0.act = .send X.ct m' := e0
            have e1' : x1.g = i ∧ x1.act = .recv X.ct m' 0 := e1
            have e2' : x2.g = 0 ∧ x2.act = .sendDone X.ct m' := e2
            have e3' : x3.g = i ∧ x3.act = .recvDone X.ct m' := e3
            obtain ⟨ρ', O', hP⟩ := h.give (gs' := gs') ok so pl hlv hnm hsel hk htk hAR hC0 (by rw [hgs']; simp) (fun k k0 ki => by rw [hgs', Array.getElem?_setIfInBounds_ne (Ne.symm ki), Array.getElem?_setIfInBounds_ne (Ne.symm k0)])
              (by rw [hgs', Array.getElem?_setIfInBounds_ne hi0, Array.getElem?_setIfInBounds_self_of_lt hlt0]; rfl) (by rw [hgs', Array.getElem?_setIfInBounds_self_of_lt (by simpa using hlt)]; rfl) hw' e0' e1' e2' e3'
            refine ⟨_, _, hrT, next + 1, done, ρ', upd tk i (some next), gs', w', O', sl, rfl, by rw [hgs']; simp, ?_, .inr (by omega)⟩
            rw [ofEvents_nil, Array.empty_append, hu]
            exact hP
        · exfalso
          obtain ⟨st2, hw2, hc2⟩ := (h.core.sit j gj hj).2 hj0
          rcases hc2 with ⟨rfl, _⟩ | ⟨rfl, _⟩
          · exact absurd hb hw2.one
          · rcases (hw2.nine ok).2 with e | ⟨_, C2, g2, rfl, _⟩ | ⟨i2, C2, v2, g2, _, rfl, _⟩
            · rw [e] at hb; cases hb
            · obtain ⟨rfl, _⟩ := parked_inj ho
              obtain ⟨_, rfl⟩ := one_case rfl hk'
              cases hs
            · obtain ⟨rfl, _⟩ := parked_inj ho
              obtain ⟨_, rfl⟩ := one_case rfl hk'
              injection hch' with e
              injection e with e
              exact pl.tb e.symm
  | some ti =>
    rw [htk] at hw
    have hk : K i := (h.tin i ti htk).1
    obtain ⟨rfl, hd, hcase⟩ := hw.next_task ok hrun
    rcases hcase with ⟨g', W', es, r', e, hgu, hsub, hw', hrun'⟩ | ⟨C, v, r', hAS, hcomm, hC0, hsub⟩
    · have shk : ∀ b, Sh b → W'.heap[b]? = W.heap[b]? := fun b hb => hgu.keep b (ap.loS b hb) fun x => ap.sh i b x hb
      have := h.own (W' := W') (O' := grow (O i) W W') (r' := r') ok hz hi (.inr hk) (.of hgu fun b hb => ap.lo i b hb) (flat_evOk hgu.evs 0) (shk _ pl.wg)
        (let ⟨m, tm, x⟩ := h.cht; ⟨m, tm, (shk _ pl.ct).trans x⟩) (let ⟨m, tm, x⟩ := h.chb; ⟨m, tm, (shk _ pl.cb).trans x⟩) (fun e => absurd e hi0) (fun _ => by rw [htk]; exact hw') (by rw [hrun']; simp) hd g.frame.fn g.frame.place
      exact ⟨_, _, runT_crowd_go (P := X.P) (sl := sl) (i := i) hi (by rw [hi0']; exact e), next, done, upd ρ i r', tk, _, W', _, sl, rfl, by simp, this, .inl ⟨rfl, rfl, .of hlt hsub⟩⟩
    · obtain ⟨mb, tmb, hcb⟩ := h.chb
      rcases comm_open (P := X.P) (sl := sl) (i := i) hi (by rw [hi0']; exact hcomm W) (fun cc hcc => by simp at hcc; subst hcc; exact .inr ⟨X.cb, mb, tmb, rfl, hcb⟩) with ⟨hno, hr⟩ | ⟨gs', w', u, ⟨k, cc, c, m', tm', j, gj, cs', sh', k', cc', d', x0, x1, x2, x3, hkc, hcc, hcw, hji, hj, hb, ho, hk', hch', hs, hgs', hw', hu, e0, e1, e2, e3⟩, hrT⟩
      · refine ⟨_, _, hr, next, done, upd ρ i r', tk, _, W, O, sl, rfl, by simp, ?_, .inl ⟨rfl, rfl, .of hlt hsub⟩⟩
        rw [ofEvents_nil, Array.append_empty]
        refine h.put hi (.inr hk) (fun e => absurd e hi0) (fun _ => by rw [htk]; exact .parkS hAS hcomm hC0) hd fun a' ha hb j x hj hx hxb => ?_
        rw [Array.getElem?_setIfInBounds_ne hi0] at ha
        exfalso
        rcases hz a' ha with hr' | ⟨g1, rfl⟩
        · rw [hr'] at hb; cases hb
        · have := hno (scase X.cb v X.zb) (by simp) X.cb rfl 0 _ (Ne.symm hi0) ha
          have hm := mem_offers (h := parked g1 (selc X zs next) .select) (k := 1) (r := X.cb) (cc := rcase X.cb X.zr) hb rfl (by simp [selc]) rfl
          have e' : offersAt (parked g1 (selc X zs next) .select) X.cb false = [] := this
          have hm' : 1 ∈ offersAt (parked g1 (selc X zs next) .select) X.cb false := hm
          rw [e'] at hm'
          cases hm'
      · obtain ⟨_, rfl⟩ := one_case rfl hkc
        have hcb' : c = X.cb := by injection hcc with e; injection e with e; exact e.symm
        subst hcb'
        by_cases hj0 : j = 0
        · subst hj0
          rw [h0] at hj
          cases hj
          rcases hS with hr' | ⟨g1, rfl, hsel, hgo⟩
          · rw [hr'] at hb; cases hb
          · obtain ⟨rfl, rfl⟩ := parked_inj ho
            have hk0 : k' = 1 ∧ cc' = rcase X.cb X.zr := by
              rcases two_cases hk' with ⟨_, rfl⟩ | ⟨rfl, rfl⟩
              · split at hs <;> cases hs
              · exact ⟨rfl, rfl⟩
            obtain ⟨rfl, rfl⟩ := hk0
            have hne : (0 : Nat) ≠ i := Ne.symm hi0
            have hlt0 : 0 < gs.size := (Array.getElem?_eq_some_iff.1 h0).1
            obtain ⟨_, hin, hdi⟩ := h.tin i ti htk
            have hmany : ti < X.many := Nat.lt_of_lt_of_le hin (so.sel _ _ _ _ _ (hsel W (.refl W))).1
            have e0' : x0.g = i ∧ x0.act = .send X.cb m' := e0
            have e1' : x1.g = 0 ∧ x1.act = .recv X.cb m' 0 := e1
            have e2' : x2.g = i ∧ x2.act = .sendDone X.cb m' := e2
            have e3' : x3.g = 0 ∧ x3.act = .recvDone X.cb m' := e3
            obtain ⟨ρ', O', hP⟩ := h.take (gs' := gs') ok so pl hlv hsel hk htk hAS (fun w => by rw [stepG_same (h := g) rfl rfl rfl]; exact hcomm w) hC0 (by rw [hgs']; simp) (fun k ki k0 => by rw [hgs', Array.getElem?_setIfInBounds_ne (Ne.symm ki), Array.getElem?_setIfInBounds_ne (Ne.symm k0)])
              (by rw [hgs', Array.getElem?_setIfInBounds_ne hi0, Array.getElem?_setIfInBounds_self_of_lt hlt0]; rfl) (by rw [hgs', Array.getElem?_setIfInBounds_self_of_lt (by simpa using hlt)]; rfl) hw' e0' e1' e2' e3'
            refine ⟨_, _, hrT, next, upd done ti true, ρ', upd tk i none, gs', w', O', sl, rfl, by rw [hgs']; simp, ?_, .inr (by have := left_upd (X := X) hmany hdi; omega)⟩
            rw [ofEvents_nil, Array.empty_append, hu]
            exact hP
        · exfalso
          obtain ⟨st2, hw2, hc2⟩ := (h.core.sit j gj hj).2 hj0
          rcases hc2 with ⟨rfl, _⟩ | ⟨rfl, _⟩
          · exact absurd hb hw2.one
          · rcases (hw2.nine ok).2 with e | ⟨_, C2, g2, rfl, _⟩ | ⟨i2, C2, v2, g2, _, rfl, _⟩
            · rw [e] at hb; cases hb
            · obtain ⟨rfl, _⟩ := parked_inj ho
              obtain ⟨_, rfl⟩ := one_case rfl hk'
              injection hch' with e
              injection e with e
              exact pl.tb e
            · obtain ⟨rfl, _⟩ := parked_inj ho
              obtain ⟨_, rfl⟩ := one_case rfl hk'
              cases hs

theorem Pool.starter (ok : X.Ok) (so : Starter X zs SEL) (pl : Places X Sh) (hlv : LiveO X.ty ow) (h : Pool X zs SEL Shun Sh K ow kz next done tk ρ gs W t O) {a : Goroutine} (h0 : gs[0]? = some a) (hrun : a.status = .running)
    (hv : ((∀ W1, Rely (O 0) X.Z W W1 → SEL next done (O 0) a W1) ∧ (next < X.many ∨ ∃ i, i < next ∧ done i = false) ∧ ∃ r', Rk.Sub r' (ρ 0)) ∨ ∃ g' W' es r', stepG X.P true a W = .go g' W' es ∧ Guar (O 0) X.Z W W' es ∧ Rk.Sub r'.up (ρ 0) ∧ RWay X.P true X.Z (SEL next done) r' (grow (O 0) W W') g' W' ∧ g'.status ≠ .blocked) :
    ∃ m' ops, runT X.P (crowd gs W sl) 0 = (.next m', ops) ∧ Turn X zs SEL Shun Sh K ow kz next done ρ gs.size t m' ops := by
  have hlt : 0 < gs.size := (Array.getElem?_eq_some_iff.1 h0).1
  have ap := h.core.apart
  have hd : Deaf t 0 = 0 := ((h.core.sit 0 a h0).1 rfl).1
  rcases hv with ⟨hsel, hgo, r', hsub⟩ | ⟨g', W', es, r', e, hgu, hsub, hw', hnb⟩
  · obtain ⟨_, hcomm, hgive, htake⟩ := (so.sel _ _ _ _ _ (hsel W (.refl W))).2 hgo
    rcases comm_open (P := X.P) (sl := sl) (i := 0) h0 (hcomm W) (opened_selc h.cht h.chb) with ⟨hno, hr⟩ | ⟨gs', w', u, ⟨k, cc, c, m', tm', j, gj, cs', sh', k', cc', d', x0, x1, x2, x3, hkc, hcc, hcw, hji, hj, hb, ho, hk', hch', hs, hgs', hw', hu, e0, e1, e2, e3⟩, hrT⟩
    · refine ⟨_, _, hr, next, done, upd ρ 0 r', tk, _, W, O, sl, rfl, by simp, ?_, .inl ⟨rfl, rfl, .of hlt hsub⟩⟩
      rw [ofEvents_nil, Array.append_empty]
      refine h.put h0 (.inl rfl) (fun _ => .park hsel hcomm hgo) (fun e => absurd rfl e) hd fun a' ha hb j x hj hx hxb => ?_
      rw [Array.getElem?_setIfInBounds_ne (Ne.symm hj)] at hx
      obtain ⟨st2, hw2, hc2⟩ := (h.core.sit j x hx).2 hj
      rcases hc2 with ⟨rfl, _⟩ | ⟨rfl, _⟩
      · exact absurd hxb hw2.one
      · rcases (hw2.nine ok).2 with e | ⟨hn, C2, g2, rfl, _⟩ | ⟨i2, C2, v2, g2, _, rfl, _⟩
        · rw [e] at hxb; cases hxb
        · refine ⟨?_, hn⟩
          by_cases hnm : next < X.many
          · exfalso
            have := hno (scase X.ct (.int .i64 next) zs) (by simp [selc, hnm]) X.ct rfl j _ hj hx
            have hm := mem_offers (h := parked g2 #[rcase X.ct X.zt] (.recv true)) (k := 0) (r := X.ct) (cc := rcase X.ct X.zt) hxb rfl rfl rfl
            have e' : offersAt (parked g2 #[rcase X.ct X.zt] (.recv true)) X.ct false = [] := this
            have hm' : 0 ∈ offersAt (parked g2 #[rcase X.ct X.zt] (.recv true)) X.ct false := hm
            rw [e'] at hm'
            cases hm'
          · have := (so.sel _ _ _ _ _ (hsel W (.refl W))).1
            omega
        · exfalso
          have := hno (rcase X.cb X.zr) (by simp [selc]) X.cb rfl j _ hj hx
          have hm := mem_offers (h := parked g2 #[scase X.cb v2 X.zb] .send) (k := 0) (r := X.cb) (cc := scase X.cb v2 X.zb) hxb rfl rfl rfl
          have e' : offersAt (parked g2 #[scase X.cb v2 X.zb] .send) X.cb true = [] := this
          have hm' : 0 ∈ offersAt (parked g2 #[scase X.cb v2 X.zb] .send) X.cb true := hm
          rw [e'] at hm'
          cases hm'
    · obtain ⟨st2, hw2, hc2⟩ := (h.core.sit j gj hj).2 hji
      rcases hc2 with ⟨rfl, _⟩ | ⟨rfl, hkj⟩
      · exact absurd hb hw2.one
      · have hltj : j < gs.size := (h.kin j hkj).2
        rcases (hw2.nine ok).2 with e | ⟨hn, C2, g2, rfl, hAR, hC2⟩ | ⟨i2, C2, v2, g2, hti, rfl, hAS, hcm2, hC2⟩
        · rw [e] at hb; cases hb
        · obtain ⟨rfl, rfl⟩ := parked_inj ho
          obtain ⟨rfl, rfl⟩ := one_case rfl hk'
          have hct' : c = X.ct := by injection hch' with e; injection e with e; exact e.symm
          subst hct'
          rcases two_cases hkc with ⟨rfl, rfl⟩ | ⟨_, rfl⟩
          · by_cases hnm : next < X.many
            · rw [if_pos hnm] at hgs' e0 e1 e2 e3
              have e0' : x0.g = 0 ∧ x0.act = .send X.ct m' := e0
              have e1' : x1.g = j ∧ x1.act = .recv X.ct m' 0 := e1
              have e2' : x2.g = 0 ∧ x2.act = .sendDone X.ct m' := e2
              have e3' : x3.g = j ∧ x3.act = .recvDone X.ct m' := e3
              obtain ⟨ρ', O', hP⟩ := h.give (gs' := gs') ok so pl hlv hnm hsel hkj hn hAR hC2 (by rw [hgs']; simp) (fun k k0 ki => by rw [hgs', Array.getElem?_setIfInBounds_ne (Ne.symm k0), Array.getElem?_setIfInBounds_ne (Ne.symm ki)])
                (by rw [hgs', Array.getElem?_setIfInBounds_self_of_lt (by simpa using hlt)]; rfl) (by rw [hgs', Array.getElem?_setIfInBounds_ne (Ne.symm hji), Array.getElem?_setIfInBounds_self_of_lt hltj]; rfl) hw' e0' e1' e2' e3'
              refine ⟨_, _, hrT, next + 1, done, ρ', upd tk j (some next), gs', w', O', sl, rfl, by rw [hgs']; simp, ?_, .inr (by omega)⟩
              rw [ofEvents_nil, Array.empty_append, hu]
              exact hP
            · rw [if_neg hnm] at hcc; cases hcc
          · exfalso
            injection hcc with e
            injection e with e
            exact pl.tb e.symm
        · obtain ⟨rfl, rfl⟩ := parked_inj ho
          obtain ⟨rfl, rfl⟩ := one_case rfl hk'
          have hcb' : c = X.cb := by injection hch' with e; injection e with e; exact e.symm
          subst hcb'
          rcases two_cases hkc with ⟨rfl, rfl⟩ | ⟨rfl, rfl⟩
          · exfalso
            split at hcc
            · injection hcc with e
              injection e with e
              exact pl.tb e
            · cases hcc
          · obtain ⟨_, hin, hdi⟩ := h.tin j i2 hti
            have hmany : i2 < X.many := Nat.lt_of_lt_of_le hin (so.sel _ _ _ _ _ (hsel W (.refl W))).1
            have e0' : x0.g = j ∧ x0.act = .send X.cb m' := e0
            have e1' : x1.g = 0 ∧ x1.act = .recv X.cb m' 0 := e1
            have e2' : x2.g = j ∧ x2.act = .sendDone X.cb m' := e2
            have e3' : x3.g = 0 ∧ x3.act = .recvDone X.cb m' := e3
            obtain ⟨ρ', O', hP⟩ := h.take (gs' := gs') ok so pl hlv hsel hkj hti hAS hcm2 hC2 (by rw [hgs']; simp) (fun k ki k0 => by rw [hgs', Array.getElem?_setIfInBounds_ne (Ne.symm k0), Array.getElem?_setIfInBounds_ne (Ne.symm ki)])
              (by rw [hgs', Array.getElem?_setIfInBounds_self_of_lt (by simpa using hlt)]; rfl) (by rw [hgs', Array.getElem?_setIfInBounds_ne (Ne.symm hji), Array.getElem?_setIfInBounds_self_of_lt hltj]; rfl) hw' e0' e1' e2' e3'
            refine ⟨_, _, hrT, next, upd done i2 true, ρ', upd tk j none, gs', w', O', sl, rfl, by rw [hgs']; simp, ?_, .inr (by have := left_upd (X := X) hmany hdi; omega)⟩
            rw [ofEvents_nil, Array.empty_append, hu]
            exact hP
  · have shk : ∀ b, Sh b → W'.heap[b]? = W.heap[b]? := fun b hb => hgu.keep b (ap.loS b hb) fun x => ap.sh 0 b x hb
    have := h.own (W' := W') (O' := grow (O 0) W W') (r' := r'.up) ok (fun x hx => by rw [h0] at hx; cases hx; exact .inl hrun) h0 (.inl rfl) (.of hgu fun b hb => ap.lo 0 b hb) (flat_evOk hgu.evs 0) (shk _ pl.wg)
      (let ⟨m, tm, x⟩ := h.cht; ⟨m, tm, (shk _ pl.ct).trans x⟩) (let ⟨m, tm, x⟩ := h.chb; ⟨m, tm, (shk _ pl.cb).trans x⟩) (fun _ => .run hw') (fun e => absurd rfl e) hnb hd a.frame.fn a.frame.place
    exact ⟨_, _, runT_crowd_go (P := X.P) (sl := sl) (i := 0) h0 e, next, done, upd ρ 0 r'.up, tk, _, W', _, sl, rfl, by simp, this, .inl ⟨rfl, rfl, .of hlt hsub⟩⟩
end
end Go.Proofs.YtgcbcagaibecbaaGreatDoor.Pool
