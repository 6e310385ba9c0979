
/-
  Rules over the evaluator: a function's body, a loop, a region that draws its order; what is known of memory, block by block.
-/
import Derived.Test.YtakdekkieobbaaaDoorEvD
namespace Go.Proofs.YtakdekkieobbaaaDoor.Ev
open Go

/-! ### A function's body -/
def initS : Nat → List Value → Slots
  | _, [] => []
  | i, v :: r => (i, v) :: initS (i + 1) r

structure RetC (p : Prop) : Prop where
  h : p

def resK (τ : Tab) (σ : Slots) (w : World) : List ResultVar → (List Value → Prop) → Prop
  | [], k => k []
  | .tmp t :: r, k => match look σ t with
    | some v => resK τ σ w r fun vs => k (v :: vs)
    | none => False
  | .cell x t :: r, k => match look σ x, tl τ t with
    | some (.pointer (some ⟨b, o, none⟩)), some ⟨n, kd, _⟩ => (match kd.agg with
      | true => LdA w b o n fun v => resK τ σ w r fun vs => k (v :: vs)
      | false => LdC w b o fun v => resK τ σ w r fun vs => k (v :: vs))
    | _, _ => False

def bodyQ (τ : Tab) (rs : List ResultVar) (R : Value → World → Prop) : Exit → Slots → World → Prop := fun e σ w =>
  match e with
  | .normal | .ret => resK τ σ w rs fun vs => match vs with
    | [v] => RetC (R v w)
    | vs => RetC (R (.tuple vs.toArray) w)
  | _ => False

section
variable {P : Program} {τ : Tab} {N : Nat} {σ : Slots} {a : Act} {w : World}

theorem initS_look : ∀ (l : List Value) (i n : Nat) (v : Value), look (initS i l) n = some v → i ≤ n ∧ l[n - i]? = some v
  | [], _, _, _, h => by cases h
  | x :: l, i, n, v, h => by
    unfold initS look at h
    cases hb : Nat.beq i n with
    | true =>
      rw [hb] at h
      have := Nat.eq_of_beq_eq_true hb
      subst this
      simp only [Option.some.injEq] at h
      subst h
      simp
    | false =>
      rw [hb] at h
      obtain ⟨h1, h2⟩ := initS_look l (i + 1) n v h
      refine ⟨by omega, ?_⟩
      rw [show n - i = (n - (i + 1)) + 1 by omega]
      simpa using h2

theorem fits_init {args : List Value} (h : args.length ≤ N) : Fits N (initS 0 args) { tmps := args.toArray ++ Array.replicate (N - args.toArray.size) undef, defers := [] } := by
  refine ⟨by simp; omega, rfl, fun n v hn => ?_⟩
  obtain ⟨_, h2⟩ := initS_look args 0 n v hn
  have h3 : args[n]? = some v := by simpa using h2
  have hlt : n < args.length := (List.getElem?_eq_some_iff.1 h3).1
  rw [Array.getElem?_append_left (by simpa using hlt)]
  simpa using h3

theorem ldv_sound {t : TypeId} {n : Nat} {kd : TK} {z : List Value} {b o : Nat} (hτ : TabOk P τ) (ht : tl τ t = some ⟨n, kd, z⟩) {k : Value → Prop}
    (h : match kd.agg with | true => LdA w b o n k | false => LdC w b o k) : ∃ v, (loadVar t ⟨b, o, none⟩).run P w = .ok v w ∧ k v := by
  obtain ⟨v, hr, hk⟩ := load_sound hτ ht h
  refine ⟨v, ?_, hk⟩
  simpa [Instr.loadAt, Instr.sureAddr] using hr

def resOne (tmps : Array Value) : ResultVar → Sem Value
  | .tmp t => pure (tmps.getD t undef)
  | .cell x t => do loadVar t (← asAddr (tmps.getD x undef))
theorem results_eq (fn : Func) (tmps : Array Value) : results fn tmps = (do let vs ← fn.results.mapM (resOne tmps); pure (if h : vs.size = 1 then vs[0] else .tuple vs)) := by
  unfold results
  congr 1

theorem resK_sound (hτ : TabOk P τ) (hf : Fits N σ a) : ∀ (rs : List ResultVar) (k : List Value → Prop), resK τ σ w rs k →
    ∃ vs : List Value, (rs.mapM (resOne a.tmps)).run P w = .ok vs w ∧ k vs ∧ vs.length = rs.length
  | [], k, h => ⟨[], rfl, h, rfl⟩
  | .tmp t :: r, k, h => by
    unfold resK at h
    split at h
    · rename_i v hv
      obtain ⟨vs, h1, h2, h3⟩ := resK_sound hτ hf r _ h
      have hx := hf.vals t v hv
      refine ⟨v :: vs, ?_, h2, by simp [h3]⟩
      have e : (resOne a.tmps (.tmp t)).run P w = .ok v w := by simp [resOne, hx]
      rw [List.mapM_cons, Sem.run_bind, e, Result.andThen_ok, Sem.run_bind, h1]
      rfl
    · exact h.elim
  | .cell x t :: r, k, h => by
    unfold resK at h
    split at h
    · rename_i b o n kd z hx ht
      obtain ⟨v, hr, hk⟩ := ldv_sound hτ ht h
      obtain ⟨vs, h1, h2, h3⟩ := resK_sound hτ hf r _ hk
      have hx := hf.vals x _ hx
      refine ⟨v :: vs, ?_, h2, by simp [h3]⟩
      have e : (resOne a.tmps (.cell x t)).run P w = .ok v w := by
        simp [resOne, hx, asAddr, hr]
      rw [List.mapM_cons, Sem.run_bind, e, Result.andThen_ok, Sem.run_bind, h1]
      rfl
    · exact h.elim

theorem fn_intro (hτ : TabOk P τ) {f : FuncId} {fn : Func} {c : Code} {args : List Value} {R : Value → World → Prop} (hf : P.funcs[f]? = some fn) (hname : (fn.name == "runtime.NumGoroutine") = false) (hb : fn.body = some c) (hN : fn.ntmps = N)
    (hle : args.length ≤ N) (h : evR P τ N c (bodyQ τ fn.results.toList R) (initS 0 args) w) : CallC P f args.toArray w R := by
  rw [evR_eq] at h
  have hname' : ¬ fn.name = "runtime.NumGoroutine" := by simpa using hname
  refine ⟨.inl ⟨by simp [callFunc, program, Sem.run, hf, hname', hb], ?_⟩⟩
  refine calls_of_wp hf hb ?_
  rw [hN]
  refine wp_mono (ev_sound hτ c _ _ _ w (fits_init hle) h) ?_
  have fin : ∀ (σ : Slots) (a : Act) (w : World), Fits N σ a → (resK τ σ w fn.results.toList fun vs => match vs with
    | [v] => RetC (R v w)
    | vs => RetC (R (.tuple vs.toArray) w)) → a.defers = [] ∧ ∃ v, (results fn a.tmps).run P w = .ok v w ∧ ∃ u, Ending.returned v = .returned u ∧ R u w := by
    intro σ a w hfit hq
    refine ⟨hfit.defers, ?_⟩
    obtain ⟨vs, h1, h2, h3⟩ := resK_sound hτ hfit _ _ hq
    have hm : (fn.results.mapM (resOne a.tmps)).run P w = .ok vs.toArray w := by
      rw [Array.mapM_eq_mapM_toList, Sem.run_map, h1]
      rfl
    have hres : (results fn a.tmps).run P w = .ok (if h : vs.toArray.size = 1 then vs.toArray[0] else .tuple vs.toArray) w := by
      rw [results_eq, Sem.run_bind, hm]
      rfl
    refine ⟨_, hres, _, rfl, ?_⟩
    split at h2
    · simpa using h2.h
    · rename_i hne
      rw [dif_neg (by
        intro hs
        match vs, hs with
        | [v], _ => exact hne v rfl)]
      exact h2.h
  intro e a w hq
  cases e with
  | normal => obtain ⟨σ, hfit, hq⟩ := hq; exact fin σ a w hfit hq
  | ret => obtain ⟨σ, hfit, hq⟩ := hq; exact fin σ a w hfit hq
  | exit i => obtain ⟨σ, hfit, hq⟩ := hq; exact hq.elim
  | goto l => exact hq.elim
  | panic c => exact hq.elim
  | outgrown => exact hq.elim

/-! ### A loop -/
def Sub : Slots → Slots → Prop
  | [], _ => True
  | (n, v) :: r, σ => look σ n = some v ∧ Sub r σ
theorem Sub.look_ : ∀ {σ' σ : Slots}, Sub σ' σ → ∀ n v, look σ' n = some v → look σ n = some v
  | [], _, _, _, _, h => by cases h
  | (m, u) :: r, σ, hs, n, v, h => by
    unfold look at h
    cases hb : Nat.beq m n with
    | true =>
      rw [hb] at h
      have := Nat.eq_of_beq_eq_true hb
      subst this
      simp only [Option.some.injEq] at h
      subst h
      exact hs.1
    | false =>
      rw [hb] at h
      exact Sub.look_ hs.2 n v h

structure LoopE (I : Slots → World → Nat → Prop) (n : Nat) (σ : Slots) (w : World) : Prop where
  ex : ∃ n' σ', n' < n ∧ Sub σ' σ ∧ I σ' w n'

def loopQ (I : Slots → World → Nat → Prop) (n : Nat) (Q : Exit → Slots → World → Prop) : Exit → Slots → World → Prop := fun e σ w =>
  match e with
  | .normal => LoopE I n σ w
  | e => Q e σ w

theorem loopR (hτ : TabOk P τ) {body : Code} {Q : Exit → Slots → World → Prop} (I : Slots → World → Nat → Prop) {σ' : Slots} {n : Nat} (hs : Sub σ' σ) (h0 : I σ' w n)
    (hr : ∀ σ w n, I σ w n → evR P τ N body (loopQ I n Q) σ w) : LoopC P τ N body Q σ w := by
  simp only [evR_eq] at hr
  refine ⟨fun a hf b k cs => ?_⟩
  have key : ∀ n σ a w, Fits N σ a → I σ w n → ∃ e a' w', lift N Q e a' w' ∧ Arrives P (lone (b.at a (.code body :: .inLoop body :: k)) cs w) b k cs e a' w' := by
    intro n
    induction n using Nat.strongRecOn with
    | _ n ih =>
      intro σ a w hf hI
      obtain ⟨e, a₁, w₁, hq, harr⟩ := ev_sound hτ body _ σ a w hf (hr σ w n hI) b (.inLoop body :: k) cs
      cases e with
      | normal =>
        obtain ⟨σ₁, hf₁, hq⟩ := hq
        obtain ⟨n', σ₂, hlt, hsub, hI'⟩ := hq.ex
        obtain ⟨e₂, a₂, w₂, hq₂, harr₂⟩ := ih n' hlt σ₂ a₁ w₁ (hf₁.weaken hsub.look_) hI'
        exact ⟨e₂, a₂, w₂, hq₂, .of_steps (Steps.trans harr (.one step_inLoop)) harr₂⟩
      | exit id => exact ⟨.exit id, a₁, w₁, hq, .pass (x := .inLoop body) rfl (fun _ _ => .inl (by simp)) harr⟩
      | ret => exact ⟨.ret, a₁, w₁, hq, .pass (x := .inLoop body) rfl (fun _ _ => .inl (by simp)) harr⟩
      | goto l => exact hq.elim
      | panic ch => exact hq.elim
      | outgrown => exact hq.elim
  obtain ⟨e, a', w', hq, harr⟩ := key n σ' a w (hf.weaken hs.look_) h0
  exact ⟨e, a', w', hq, .of_steps (.one step_loop) harr⟩

/-! ### A region that draws its order -/
/-- A load whose cell nobody in the region turns. -/
structure LdF (S : World → Prop) (b o : Nat) (k : Value → Prop) : Prop where
  ex : ∃ v, (∀ w, S w → w.cell? ⟨b, o, none⟩ = some v) ∧ k v
structure LdG (S : World → Prop) (b o n : Nat) (k : Value → Prop) : Prop where
  ex : ∃ l : List Value, l.length = n ∧ (∀ w, S w → CellsAt w b o l) ∧ k (.agg l.toArray)
structure KeepC (p q : Prop) : Prop where
  keep : p
  go : q

def nthO : List Oper → Nat → Option Oper
  | [], _ => none
  | o :: _, 0 => some o
  | _ :: r, n + 1 => nthO r n
theorem nthO_eq (l : List Oper) (n : Nat) : nthO l n = l[n]? := by
  induction l generalizing n with
  | nil => rfl
  | cons x r ih => cases n with
    | zero => rfl
    | succ n => simpa [nthO] using ih n

def memN : List Nat → Nat → Bool
  | [], _ => false
  | m :: r, n => match Nat.beq m n with | true => true | false => memN r n

def isLoad : Op → Bool
  | .load .. => true
  | _ => false

/-- May it be taken at whatever time? ('late': the numbers of loads that must keep their place.) -/
def floats (late : List Nat) (i : Nat) (op : Op) : Bool :=
  match isPure op with
  | true => true
  | false => match isLoad op with
    | true => !memN late i
    | false => false

def evDraw (P : Program) (τ : Tab) (N : Nat) (ops : Array Oper) (late : List Nat) (S : World → Prop) : List Nat → (Slots → World → Prop) → Slots → World → Prop
  | [], Q, σ, w => Q σ w
  | i :: rest, Q, σ, w => match nthO ops.toList i with
    | some ⟨dst, op, _, _, _, g⟩ => guardK N ops.toList g σ
        (fun σ => match isPure op with
          | true => pureOp P τ σ op fun v => put1 N dst v σ fun σ => evDraw P τ N ops late S rest Q σ w
          | false => match floats late i op with
            | true => (match op with
              | .load t x => match ro σ x, tl τ t with
                | some (.pointer (some ⟨b, o, none⟩)), some ⟨n, kd, _⟩ => (match kd.agg with
                  | true => LdG S b o n fun v => put1 N dst v σ fun σ => evDraw P τ N ops late S rest Q σ w
                  | false => LdF S b o fun v => put1 N dst v σ fun σ => evDraw P τ N ops late S rest Q σ w)
                | _, _ => False
              | _ => False)
            | false => worldOp P τ σ op w fun v w => KeepC (S w) (put1 N dst v σ fun σ => evDraw P τ N ops late S rest Q σ w))
        (fun σ => put1 N dst undef σ fun σ => evDraw P τ N ops late S rest Q σ w)
    | none => False

def drawStep (P : Program) (τ : Tab) (N : Nat) (ops : Array Oper) (late : List Nat) (S : World → Prop) (i : Nat) (K : Slots → World → Prop) (σ : Slots) (w : World) : Prop :=
  match nthO ops.toList i with
  | some ⟨dst, op, _, _, _, g⟩ => guardK N ops.toList g σ
      (fun σ => match isPure op with
        | true => pureOp P τ σ op fun v => put1 N dst v σ fun σ => K σ w
        | false => match floats late i op with
          | true => (match op with
            | .load t x => match ro σ x, tl τ t with
              | some (.pointer (some ⟨b, o, none⟩)), some ⟨n, kd, _⟩ => (match kd.agg with
                | true => LdG S b o n fun v => put1 N dst v σ fun σ => K σ w
                | false => LdF S b o fun v => put1 N dst v σ fun σ => K σ w)
              | _, _ => False
            | _ => False)
          | false => worldOp P τ σ op w fun v w => KeepC (S w) (put1 N dst v σ fun σ => K σ w))
      (fun σ => put1 N dst undef σ fun σ => K σ w)
  | none => False
def evDrawR (P : Program) (τ : Tab) (N : Nat) (ops : Array Oper) (late : List Nat) (S : World → Prop) (order : List Nat) (Q : Slots → World → Prop) : Slots → World → Prop :=
  List.rec (motive := fun _ => Slots → World → Prop) Q (fun i _ ih => drawStep P τ N ops late S i ih) order
theorem evDrawR_eq (P : Program) (τ : Tab) (N : Nat) (ops : Array Oper) (late : List Nat) (S : World → Prop) (Q : Slots → World → Prop) : ∀ order : List Nat, evDrawR P τ N ops late S order Q = fun σ w => evDraw P τ N ops late S order Q σ w
  | [] => rfl
  | i :: r => by
    have ih := evDrawR_eq P τ N ops late S Q r
    show drawStep P τ N ops late S i (evDrawR P τ N ops late S r Q) = _
    rw [ih]
    funext σ w
    unfold drawStep
    rw [evDraw]

def orderOk (ops : Array Oper) (late : List Nat) : List Nat → Array Bool → Bool
  | [], listed => (Region.ready .any ops listed).isEmpty
  | i :: r, listed => (match ops[i]? with
    | some o => (match floats late i o.op with
      | true => Region.free .any ops listed i && (Region.ready .any ops listed).contains i
      | false => Region.ready .any ops listed == [i])
    | none => false) && orderOk ops late r (listed.setIfInBounds i true)

theorem draw_sound (hτ : TabOk P τ) {ops : Array Oper} {late : List Nat} {S : World → Prop} {Q : Slots → World → Prop} {R : Exit → Act → World → Prop} (hs : Region.noSelect ops = true) (hR : ∀ c a w, ¬ R (.panic c) a w) (hQ : ∀ a w σ, Fits N σ a → Q σ w → R .normal a w) :
    ∀ (order : List Nat) (listed : Array Bool) (σ : Slots) (a : Act) (w : World), Fits N σ a → S w → orderOk ops late order listed = true → evDraw P τ N ops late S order Q σ w → wpAnyH P .any ops R S order.length listed a w
  | [], listed, σ, a, w, hf, hS, hok, h => by
    unfold orderOk at hok
    exact ⟨by simpa using hok, hQ a w σ hf h⟩
  | i :: rest, listed, σ, a, w, hf, hS, hok, h => by
    unfold orderOk at hok
    unfold evDraw at h
    rw [nthO_eq] at h
    cases ho : ops[i]? with
    | none =>
      have : ops.toList[i]? = none := by simpa using ho
      rw [this] at h; exact h.elim
    | some o =>
      have hol : ops.toList[i]? = some o := by simpa using ho
      rw [hol] at h
      rw [ho] at hok
      obtain ⟨dst, op, ty, pos, after, g⟩ := o
      simp only [Bool.and_eq_true] at hok
      obtain ⟨hok1, hok2⟩ := hok
      simp only at h
      have hpan : ∀ (v : Value) (c : List PanicEntry) (a : Act) (w : World), R (.panic c) (a.put dst v) w → R (.panic c) a w := fun v c a w hc => absurd hc (hR c _ w)
      have take : ∀ (v : Value), YieldsIf P ops S ⟨dst, op, ty, pos, after, g⟩ v a → floats late i op = true → wpAnyH P .any ops R S rest.length (listed.setIfInBounds i true) (a.put dst v) w → wpAnyH P .any ops R S (i :: rest).length listed a w := by
        intro v hy hfl hgo
        rw [hfl] at hok1
        simp only [Bool.and_eq_true] at hok1
        exact wpAnyH_take (oi := ⟨dst, op, ty, pos, after, g⟩) ho hs hok1.1 hok1.2 (hpan v) hy hS hgo
      rcases guard_sound (o := ⟨dst, op, ty, pos, after, g⟩) hf h with ⟨hw, σ', hf', h2⟩ | ⟨hw, σ', hf', h2⟩
      · cases hp : isPure op with
        | true =>
          rw [hp] at h2
          obtain ⟨v, hv, h3⟩ := pure_sound (o := ⟨dst, op, ty, pos, after, g⟩) hτ hf' h2
          obtain ⟨σ'', hf'', h4⟩ := put1_sound hf' h3
          exact take v (.inl ⟨hw, fun w _ => hv w⟩) (by simp [floats, hp]) (draw_sound hτ hs hR hQ rest _ σ'' _ w hf'' hS hok2 h4)
        | false =>
          rw [hp] at h2
          simp only at h2
          cases hfl : floats late i op with
          | true =>
            rw [hfl] at h2
            simp only at h2
            split at h2
            · rename_i t x
              split at h2
              · rename_i b o n kd z hx ht
                have hyield : ∃ v, (∀ w, S w → (Instr.loadAt t (.pointer (some ⟨b, o, none⟩))).run P w = .ok v w) ∧ put1 N dst v σ' fun σ => evDraw P τ N ops late S rest Q σ w := by
                  cases hk : kd.agg with
                  | true =>
                    rw [hk] at h2
                    obtain ⟨l, hl, hc, hv⟩ := h2.ex
                    refine ⟨_, fun w' hw' => ?_, hv⟩
                    obtain ⟨v, hr, hv⟩ := load_sound (P := P) (w := w') (b := b) (o := o) (k := fun v => v = .agg l.toArray) hτ ht (by rw [hk]; exact ⟨l, hl, hc w' hw', rfl⟩)
                    rw [hr, hv]
                  | false =>
                    rw [hk] at h2
                    obtain ⟨v, hc, hv⟩ := h2.ex
                    refine ⟨v, fun w' hw' => ?_, hv⟩
                    obtain ⟨u, hr, hu⟩ := load_sound (P := P) (w := w') (b := b) (o := o) (k := fun u => u = v) hτ ht (by rw [hk]; exact ⟨v, hc w' hw', rfl⟩)
                    rw [hr, hu]
                obtain ⟨v, hv, h3⟩ := hyield
                obtain ⟨σ'', hf'', h4⟩ := put1_sound hf' h3
                refine take v (.inl ⟨hw, fun w' hw' => ?_⟩) hfl (draw_sound hτ hs hR hQ rest _ σ'' _ w hf'' hS hok2 h4)
                simp only [execOp, ro_eval hf' hx]
                exact vrun (hv w' hw')
              · exact h2.elim
            · exact h2.elim
          | false =>
            rw [hfl] at h2 hok1
            simp only [beq_iff_eq] at h2 hok1
            refine wpAnyH_all (rs := [i]) hok1 (by simp) ?_
            intro j hj
            obtain rfl : j = i := by simpa using hj
            unfold wpOp
            rw [ho]
            simp only [hw, if_true]
            refine .inl (Oper.wp_mono ?_ (world_sound (o := ⟨dst, op, ty, pos, after, g⟩) hτ hf' h2 R))
            rintro a' w' ⟨v, rfl, h3⟩
            obtain ⟨σ'', hf'', h4⟩ := put1_sound hf' h3.go
            exact ⟨h3.keep, draw_sound hτ hs hR hQ rest _ σ'' _ w' hf'' h3.keep hok2 h4⟩
      · obtain ⟨σ'', hf'', h4⟩ := put1_sound hf' h2
        cases hfl : floats late i op with
        | true => exact take undef (.inr ⟨hw, rfl⟩) hfl (draw_sound hτ hs hR hQ rest _ σ'' _ w hf'' hS hok2 h4)
        | false =>
          rw [hfl] at hok1
          simp only [beq_iff_eq] at hok1
          refine wpAnyH_all (rs := [i]) hok1 (by simp) ?_
          intro j hj
          obtain rfl : j = i := by simpa using hj
          unfold wpOp
          rw [ho]
          simp only [hw, Bool.false_eq_true, if_false]
          exact ⟨hS, draw_sound hτ hs hR hQ rest _ σ'' _ w hf'' hS hok2 h4⟩

theorem drawR (hτ : TabOk P τ) (hm : P.follows .mixedOrders = true) {ops : Array Oper} {Q : Slots → World → Prop} (late : List Nat) (S : World → World → Prop) (order : List Nat)
    (hok : (Region.noSelect ops && Nat.beq order.length ops.size && orderOk ops late order (Array.replicate ops.size false)) = true)
    (hS : S { w with drawn := w.drawn + 1 } { w with drawn := w.drawn + 1 }) (h : evDraw P τ N ops late (S { w with drawn := w.drawn + 1 }) order Q σ { w with drawn := w.drawn + 1 }) : DrawC P τ N ops Q σ w := by
  simp only [Bool.and_eq_true] at hok
  refine ⟨fun id a hf => ?_⟩
  refine wp_region_held (S := S { w with drawn := w.drawn + 1 }) hm ?_
  have hlen : order.length = ops.size := Nat.eq_of_beq_eq_true hok.1.2
  have := draw_sound (R := fun e a' w' => e = .normal ∧ ∃ σ', Fits N σ' a' ∧ Q σ' w') hτ hok.1.1 (by rintro c a w ⟨h, _⟩; cases h) (fun a w σ hf hq => ⟨rfl, σ, hf, hq⟩) order _ σ a _ hf hS hok.2 h
  rw [hlen] at this
  exact this
end
end Go.Proofs.YtakdekkieobbaaaDoor.Ev
