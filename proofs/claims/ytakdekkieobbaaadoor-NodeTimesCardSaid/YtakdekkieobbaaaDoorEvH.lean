
/-
  A region that draws its order, of which some operations may come up in whatever order: a tree of its orders.
-/
import Derived.Test.YtakdekkieobbaaaDoorEvF
namespace Go.Proofs.YtakdekkieobbaaaDoor.Ev
open Go

inductive OT where
  | fin
  | take (i : Nat) (r : OT)
  | alt (i : Nat) (r : OT) (more : OT)

def OT.heads : OT → List Nat
  | .alt i _ m => i :: m.heads
  | _ => []

def evOne (P : Program) (τ : Tab) (N : Nat) (ops : Array Oper) (late : List Nat) (S : World → Prop) (i : Nat) (K : Slots → World → Prop) (σ : Slots) (w : World) : Prop :=
  match nthO ops.toList i with
  | some ⟨dst, op, _, _, _, g⟩ => guardK N ops.toList g σ
      (fun σ => match isPure op with
        | true => pureOp P τ σ op fun v => put1 N dst v σ fun σ => K σ w
        | false => match floats late i op with
          | true => (match op with
            | .load t x => match ro σ x, tl τ t with
              | some (.pointer (some ⟨b, o, none⟩)), some ⟨n, kd, _⟩ => (match kd.agg with
                | true => LdG S b o n fun v => put1 N dst v σ fun σ => K σ w
                | false => LdF S b o fun v => put1 N dst v σ fun σ => K σ w)
              | _, _ => False
            | _ => False)
          | false => worldOp P τ σ op w fun v w => KeepC (S w) (put1 N dst v σ fun σ => K σ w))
      (fun σ => put1 N dst undef σ fun σ => K σ w)
  | none => False

def evTree (P : Program) (τ : Tab) (N : Nat) (ops : Array Oper) (late : List Nat) (S : World → Prop) : OT → (Slots → World → Prop) → Slots → World → Prop
  | .fin, Q, σ, w => Q σ w
  | .take i r, Q, σ, w => evOne P τ N ops late S i (fun σ w => evTree P τ N ops late S r Q σ w) σ w
  | .alt i r .fin, Q, σ, w => evOne P τ N ops late S i (fun σ w => evTree P τ N ops late S r Q σ w) σ w
  | .alt i r m, Q, σ, w => evOne P τ N ops late S i (fun σ w => evTree P τ N ops late S r Q σ w) σ w ∧ evTree P τ N ops late S m Q σ w

def fl (ops : Array Oper) (late : List Nat) (i : Nat) : Bool := match ops[i]? with
  | some o => floats late i o.op
  | none => false

/-- 'chain': inside a row of alternatives, whose heads have been looked at. -/
def treeOk (ops : Array Oper) (late : List Nat) : OT → Nat → Bool → Array Bool → Bool
  | .fin, n, chain, listed => chain || (Nat.beq n 0 && (Region.ready .any ops listed).isEmpty)
  | .take i r, n + 1, chain, listed => !chain && fl ops late i && Region.free .any ops listed i && (Region.ready .any ops listed).contains i && treeOk ops late r n false (listed.setIfInBounds i true)
  | .alt i r m, n + 1, chain, listed => (chain || Region.ready .any ops listed == i :: m.heads) && (ops[i]?).isSome && !fl ops late i && treeOk ops late r n false (listed.setIfInBounds i true) && treeOk ops late m (n + 1) true listed
  | _, 0, _, _ => false

section
variable {P : Program} {τ : Tab} {N : Nat}

theorem one_take (hτ : TabOk P τ) {ops : Array Oper} {late : List Nat} {S : World → Prop} {R : Exit → Act → World → Prop} (hs : Region.noSelect ops = true) (hR : ∀ c a w, ¬ R (.panic c) a w) {i fuel : Nat} {listed : Array Bool} {K : Slots → World → Prop} {σ : Slots} {a : Act} {w : World}
    (hf : Fits N σ a) (hS : S w) (h0 : fl ops late i = true) (h1 : Region.free .any ops listed i = true) (h2 : (Region.ready .any ops listed).contains i = true) (h : evOne P τ N ops late S i K σ w)
    (hK : ∀ σ a, Fits N σ a → K σ w → wpAnyH P .any ops R S fuel (listed.setIfInBounds i true) a w) : wpAnyH P .any ops R S (fuel + 1) listed a w := by
  unfold evOne at h
  rw [nthO_eq] at h
  cases ho : ops[i]? with
  | none =>
    have : ops.toList[i]? = none := by simpa using ho
    rw [this] at h; exact h.elim
  | some o =>
    have hol : ops.toList[i]? = some o := by simpa using ho
    rw [hol] at h
    unfold fl at h0
    rw [ho] at h0
    obtain ⟨dst, op, ty, pos, after, g⟩ := o
    simp only at h h0
    have take : ∀ (v : Value), YieldsIf P ops S ⟨dst, op, ty, pos, after, g⟩ v a → wpAnyH P .any ops R S fuel (listed.setIfInBounds i true) (a.put dst v) w → wpAnyH P .any ops R S (fuel + 1) listed a w := by
      intro v hy hgo
      exact wpAnyH_take (oi := ⟨dst, op, ty, pos, after, g⟩) ho hs h1 h2 (fun c a w hc => absurd hc (hR c _ w)) hy hS hgo
    rcases guard_sound (o := ⟨dst, op, ty, pos, after, g⟩) hf h with ⟨hw, σ', hf', h2⟩ | ⟨hw, σ', hf', h2⟩
    · cases hp : isPure op with
      | true =>
        rw [hp] at h2
        obtain ⟨v, hv, h3⟩ := pure_sound (o := ⟨dst, op, ty, pos, after, g⟩) hτ hf' h2
        obtain ⟨σ'', hf'', h4⟩ := put1_sound hf' h3
        exact take v (.inl ⟨hw, fun w _ => hv w⟩) (hK σ'' _ hf'' h4)
      | false =>
        rw [hp] at h2
        simp only at h2
        rw [h0] at h2
        simp only at h2
        split at h2
        · rename_i t x
          split at h2
          · rename_i b o n kd z hx ht
            have hyield : ∃ v, (∀ w, S w → (Instr.loadAt t (.pointer (some ⟨b, o, none⟩))).run P w = .ok v w) ∧ put1 N dst v σ' fun σ => K σ w := by
              cases hk : kd.agg with
              | true =>
                rw [hk] at h2
                obtain ⟨l, hl, hc, hv⟩ := h2.ex
                refine ⟨_, fun w' hw' => ?_, hv⟩
                obtain ⟨v, hr, hv⟩ := load_sound (P := P) (w := w') (b := b) (o := o) (k := fun v => v = .agg l.toArray) hτ ht (by rw [hk]; exact ⟨l, hl, hc w' hw', rfl⟩)
                rw [hr, hv]
              | false =>
                rw [hk] at h2
                obtain ⟨v, hc, hv⟩ := h2.ex
                refine ⟨v, fun w' hw' => ?_, hv⟩
                obtain ⟨u, hr, hu⟩ := load_sound (P := P) (w := w') (b := b) (o := o) (k := fun u => u = v) hτ ht (by rw [hk]; exact ⟨v, hc w' hw', rfl⟩)
                rw [hr, hu]
            obtain ⟨v, hv, h3⟩ := hyield
            obtain ⟨σ'', hf'', h4⟩ := put1_sound hf' h3
            refine take v (.inl ⟨hw, fun w' hw' => ?_⟩) (hK σ'' _ hf'' h4)
            simp only [execOp, ro_eval hf' hx]
            exact vrun (hv w' hw')
          · exact h2.elim
        · exact h2.elim
    · obtain ⟨σ'', hf'', h4⟩ := put1_sound hf' h2
      exact take undef (.inr ⟨hw, rfl⟩) (hK σ'' _ hf'' h4)

theorem one_alt (hτ : TabOk P τ) {ops : Array Oper} {late : List Nat} {S : World → Prop} {R : Exit → Act → World → Prop} {i fuel : Nat} {listed : Array Bool} {K : Slots → World → Prop} {σ : Slots} {a : Act} {w : World}
    (hf : Fits N σ a) (hS : S w) (h0 : fl ops late i = false) (h : evOne P τ N ops late S i K σ w)
    (hK : ∀ σ a w, Fits N σ a → S w → K σ w → wpAnyH P .any ops R S fuel (listed.setIfInBounds i true) a w) : wpOp P ops R i (fun a' w' => S w' ∧ wpAnyH P .any ops R S fuel (listed.setIfInBounds i true) a' w') a w := by
  unfold evOne at h
  rw [nthO_eq] at h
  cases ho : ops[i]? with
  | none =>
    have : ops.toList[i]? = none := by simpa using ho
    rw [this] at h; exact h.elim
  | some o =>
    have hol : ops.toList[i]? = some o := by simpa using ho
    rw [hol] at h
    unfold fl at h0
    rw [ho] at h0
    obtain ⟨dst, op, ty, pos, after, g⟩ := o
    simp only at h h0
    unfold wpOp
    rw [ho]
    rcases guard_sound (o := ⟨dst, op, ty, pos, after, g⟩) hf h with ⟨hw, σ', hf', h2⟩ | ⟨hw, σ', hf', h2⟩
    · cases hp : isPure op with
      | true => simp [floats, hp] at h0
      | false =>
        rw [hp] at h2
        simp only at h2
        rw [h0] at h2
        simp only at h2
        simp only [hw, if_true]
        refine .inl (Oper.wp_mono ?_ (world_sound (o := ⟨dst, op, ty, pos, after, g⟩) hτ hf' h2 R))
        rintro a' w' ⟨v, rfl, h3⟩
        obtain ⟨σ'', hf'', h4⟩ := put1_sound hf' h3.go
        exact ⟨h3.keep, hK σ'' _ w' hf'' h3.keep h4⟩
    · obtain ⟨σ'', hf'', h4⟩ := put1_sound hf' h2
      simp only [hw, Bool.false_eq_true, if_false]
      exact ⟨hS, hK σ'' _ w hf'' hS h4⟩

theorem tree_sound (hτ : TabOk P τ) {ops : Array Oper} {late : List Nat} {S : World → Prop} {Q : Slots → World → Prop} {R : Exit → Act → World → Prop} (hs : Region.noSelect ops = true) (hR : ∀ c a w, ¬ R (.panic c) a w) (hQ : ∀ a w σ, Fits N σ a → Q σ w → R .normal a w) :
    ∀ (tr : OT) (n : Nat) (listed : Array Bool) (σ : Slots) (a : Act) (w : World), Fits N σ a → S w →
      (treeOk ops late tr n false listed = true → evTree P τ N ops late S tr Q σ w → wpAnyH P .any ops R S n listed a w) ∧
      (∀ m, n = m + 1 → treeOk ops late tr n true listed = true → (tr = .fin ∨ evTree P τ N ops late S tr Q σ w) → ∀ i ∈ tr.heads, wpOp P ops R i (fun a' w' => S w' ∧ wpAnyH P .any ops R S m (listed.setIfInBounds i true) a' w') a w)
  | .fin, n, listed, σ, a, w, hf, hS => by
    refine ⟨fun hok h => ?_, fun m hm hok h i hi => by cases hi⟩
    cases n with
    | succ n => simp [treeOk] at hok
    | zero =>
      simp only [treeOk, Bool.false_or, Bool.and_eq_true, List.isEmpty_iff] at hok
      exact ⟨hok.2, hQ a w σ hf h⟩
  | .take i r, n, listed, σ, a, w, hf, hS => by
    cases n with
    | zero => exact ⟨fun hok => by simp [treeOk] at hok, fun m hm => by omega⟩
    | succ n =>
      refine ⟨fun hok h => ?_, fun m hm hok => by simp [treeOk] at hok⟩
      simp only [treeOk, Bool.not_false, Bool.true_and, Bool.and_eq_true] at hok
      obtain ⟨⟨⟨h0, h1⟩, h2⟩, h3⟩ := hok
      unfold evTree at h
      exact one_take hτ hs hR hf hS h0 h1 h2 h fun σ a hf hk => (tree_sound hτ hs hR hQ r n _ σ a w hf hS).1 h3 hk
  | .alt i r m, n, listed, σ, a, w, hf, hS => by
    cases n with
    | zero => exact ⟨fun hok => by simp [treeOk] at hok, fun m hm => by omega⟩
    | succ n =>
      have key : ∀ chain, treeOk ops late (.alt i r m) (n + 1) chain listed = true → evTree P τ N ops late S (.alt i r m) Q σ w → ∀ j ∈ (OT.alt i r m).heads, wpOp P ops R j (fun a' w' => S w' ∧ wpAnyH P .any ops R S n (listed.setIfInBounds j true) a' w') a w := by
        intro chain hok h j hj
        simp only [treeOk, Bool.and_eq_true, Bool.not_eq_true'] at hok
        obtain ⟨⟨⟨⟨_, _⟩, h0⟩, h3⟩, h4⟩ := hok
        have hb : evOne P τ N ops late S i (fun σ w => evTree P τ N ops late S r Q σ w) σ w ∧ (m = .fin ∨ evTree P τ N ops late S m Q σ w) := by
          cases m with
          | fin => unfold evTree at h; exact ⟨h, .inl rfl⟩
          | take i' r' => unfold evTree at h; exact ⟨h.1, .inr h.2⟩
          | alt i' r' m' => unfold evTree at h; exact ⟨h.1, .inr h.2⟩
        simp only [OT.heads, List.mem_cons] at hj
        rcases hj with rfl | hj
        · exact one_alt hτ hf hS h0 hb.1 fun σ a w hf hS hk => (tree_sound hτ hs hR hQ r n _ σ a w hf hS).1 h3 hk
        · exact (tree_sound hτ hs hR hQ m (n + 1) listed σ a w hf hS).2 n rfl h4 hb.2 j hj
      refine ⟨fun hok h => ?_, fun m' hm hok h => ?_⟩
      · have hr : Region.ready .any ops listed = (OT.alt i r m).heads := by
          simp only [treeOk, Bool.false_or, Bool.and_eq_true, beq_iff_eq] at hok
          exact hok.1.1.1.1
        exact wpAnyH_all hr (by simp [OT.heads]) (key false hok h)
      · obtain rfl : n = m' := by omega
        rcases h with h | h
        · cases h
        · exact key true hok h

def evTreeR (P : Program) (τ : Tab) (N : Nat) (ops : Array Oper) (late : List Nat) (S : World → Prop) (Q : Slots → World → Prop) (t : OT) : Slots → World → Prop :=
  OT.rec (motive := fun _ => Slots → World → Prop) Q (fun i _ ih => evOne P τ N ops late S i ih) (fun i _ m ih im σ w => match m with | .fin => evOne P τ N ops late S i ih σ w | _ => evOne P τ N ops late S i ih σ w ∧ im σ w) t
theorem evTreeR_eq (P : Program) (τ : Tab) (N : Nat) (ops : Array Oper) (late : List Nat) (S : World → Prop) (Q : Slots → World → Prop) : ∀ t : OT, evTreeR P τ N ops late S Q t = fun σ w => evTree P τ N ops late S t Q σ w
  | .fin => by funext σ w; unfold evTree; rfl
  | .take i r => by
    have ih := evTreeR_eq P τ N ops late S Q r
    show evOne P τ N ops late S i (evTreeR P τ N ops late S Q r) = _
    rw [ih]
    funext σ w
    rw [evTree]
  | .alt i r m => by
    have ih := evTreeR_eq P τ N ops late S Q r
    have im := evTreeR_eq P τ N ops late S Q m
    funext σ w
    show (match m with | .fin => evOne P τ N ops late S i (evTreeR P τ N ops late S Q r) σ w | _ => evOne P τ N ops late S i (evTreeR P τ N ops late S Q r) σ w ∧ evTreeR P τ N ops late S Q m σ w) = _
    rw [ih, im]
    cases m <;> rw [evTree]
    all_goals intro h; cases h

/-- A region that draws its order: S w1 w': from its first world to the one now. -/
theorem drawT (hτ : TabOk P τ) (hm : P.follows .mixedOrders = true) {σ : Slots} {w : World} {ops : Array Oper} {Q : Slots → World → Prop} (late : List Nat) (T : Nat → Prop) (tr : OT)
    (hok : (Region.noSelect ops && treeOk ops late tr ops.size false (Array.replicate ops.size false)) = true)
    (h : ∀ w1, w1 = { w with drawn := w.drawn + 1 } → evTreeR P τ N ops late (Ext T w1) Q tr σ w1) : DrawC P τ N ops Q σ w := by
  replace h : ∀ w1, w1 = { w with drawn := w.drawn + 1 } → evTree P τ N ops late (Ext T w1) tr Q σ w1 := fun w1 h1 => by have := h w1 h1; rwa [evTreeR_eq] at this
  simp only [Bool.and_eq_true] at hok
  refine ⟨fun id a hf => ?_⟩
  refine wp_region_held (S := Ext T { w with drawn := w.drawn + 1 }) hm ?_
  exact (tree_sound (R := fun e a' w' => e = .normal ∧ ∃ σ', Fits N σ' a' ∧ Q σ' w') hτ hok.1 (by rintro c a w ⟨h, _⟩; cases h) (fun a w σ hf hq => ⟨rfl, σ, hf, hq⟩) tr _ _ σ a _ hf (Ext.refl _ _)).1 hok.2 (h _ rfl)
end

/-- A cut: what is known behind a region. -/
structure CutE (M : Slots → World → Prop) (σ : Slots) (w : World) : Prop where
  ex : ∃ σ', Sub σ' σ ∧ M σ' w
theorem DrawC.cut {P : Program} {τ : Tab} {N : Nat} {ops : Array Oper} {Q : Slots → World → Prop} {σ : Slots} {w : World} (M : Slots → World → Prop) (h : DrawC P τ N ops (CutE M) σ w) (hQ : ∀ σ w, M σ w → Q σ w) : DrawC P τ N ops Q σ w :=
  ⟨fun id a hf => wp_mono (h.go id a hf) fun e a' w' ⟨he, σ', hf', hm⟩ => by
    obtain ⟨σ'', hs, hm⟩ := hm.ex
    exact ⟨he, σ'', hf'.weaken hs.look_, hQ _ _ hm⟩⟩
end Go.Proofs.YtakdekkieobbaaaDoor.Ev
