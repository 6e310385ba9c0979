
/-
  A small evaluator of the model's code: the weakest precondition of a piece of code over a frame of which only some slots are known, reckoned by recursion on the code; and its soundness.
-/
import Derived.Orders
import Derived.OrdersHeld
import Derived.KernelRfl
import Derived.Laws.Sem
namespace Go.Proofs.YtakdekkieobbaaaDoor.Ev
open Go

/-! ### Slots -/
abbrev Slots := List (Nat × Value)

def look : Slots → Nat → Option Value
  | [], _ => none
  | (n, v) :: r, t => match Nat.beq n t with | true => some v | false => look r t

structure Fits (N : Nat) (σ : Slots) (a : Act) : Prop where
  size : a.tmps.size = N
  defers : a.defers = []
  vals : ∀ n v, look σ n = some v → a.tmps[n]? = some v

def ro (σ : Slots) : Operand → Option Value
  | .tmp t => look σ t
  | .const v => some v
  | .global g => some (.pointer (some ⟨g, 0, none⟩))
  | .func f => some (.func (.func f) #[] #[])

theorem ro_eval {N : Nat} {σ : Slots} {a : Act} (h : Fits N σ a) {x : Operand} {v : Value} (hx : ro σ x = some v) : a.eval x = v := by
  cases x with
  | tmp t =>
    have := h.vals t v hx
    simp [Act.eval, this]
  | const u => simpa [ro, Act.eval] using hx
  | global g => simpa [ro, Act.eval] using hx
  | func f => simpa [ro, Act.eval] using hx

theorem Fits.put {N : Nat} {σ : Slots} {a : Act} (h : Fits N σ a) {d : Nat} (hd : d < N) (v : Value) : Fits N ((d, v) :: σ) (a.put (some d) v) := by
  refine ⟨by simp [Act.put, h.size], h.defers, fun n u hn => ?_⟩
  unfold look at hn
  cases hb : Nat.beq d n with
  | true =>
    rw [hb] at hn
    have := Nat.eq_of_beq_eq_true hb
    subst this
    simp only [Option.some.injEq] at hn
    subst hn
    simp [Act.put, h.size, hd]
  | false =>
    rw [hb] at hn
    have hne : d ≠ n := Nat.ne_of_beq_eq_false hb
    simp only at hn
    have := h.vals n u hn
    simpa [Act.put, Array.getElem?_setIfInBounds_ne hne] using this

theorem Fits.weaken {N : Nat} {σ σ' : Slots} {a : Act} (h : Fits N σ a) (hs : ∀ n v, look σ' n = some v → look σ n = some v) : Fits N σ' a :=
  ⟨h.size, h.defers, fun n v hn => h.vals n v (hs n v hn)⟩

/-! ### Types -/
inductive TK where
  | int | bool | str | ptr | iface | other
  | struct (fs : List (Nat × Nat × Bool))
  | arr (n e esz : Nat) (eagg : Bool)
  | slice (e esz : Nat) (eagg : Bool)
  deriving DecidableEq

structure TI where
  size : Nat
  kind : TK
  zero : List Value

abbrev Tab := List (Nat × TI)

def tl : Tab → Nat → Option TI
  | [], _ => none
  | (n, i) :: r, t => match Nat.beq n t with | true => some i | false => tl r t

def aggB (P : Program) (t : TypeId) : Bool :=
  match P.underlying t with
  | some (.struct _) | some (.array _ _) => true
  | _ => false

def TK.agg : TK → Bool
  | .struct _ | .arr .. => true
  | _ => false

def fieldsOf (P : Program) (F : Array Field) : List (Nat × Nat × Bool) := F.toList.map fun f => (f.offset, P.cellsOf f.type, aggB P f.type)

def kindB (P : Program) (t : TypeId) : TK → Bool
  | .int => match P.underlying t with | some (.int .i64) => true | _ => false
  | .bool => match P.underlying t with | some .bool => true | _ => false
  | .str => match P.underlying t with | some .string => true | _ => false
  | .ptr => match P.underlying t with | some (.pointer _) => true | _ => false
  | .iface => match P.underlying t with | some (.interface _) => true | _ => false
  | .other => match P.underlying t with | some (.struct _) | some (.array _ _) | some (.interface _) | none => false | _ => true
  | .struct fs => match P.underlying t with | some (.struct F) => fieldsOf P F == fs && F.toList.all fun f => (P.info? f.type).isSome && (P.underlying f.type).isSome && P.cellsOf f.type != 0 | _ => false
  | .arr n e esz g => match P.underlying t with | some (.array n' e') => n' == n && e' == e && P.cellsOf e == esz && aggB P e == g && (P.info? e).isSome && (P.underlying e).isSome | _ => false
  | .slice e esz g => match P.underlying t with | some (.slice e') => e' == e && P.cellsOf e == esz && aggB P e == g && (P.info? e).isSome && (P.underlying e).isSome | _ => false

def zeroB (P : Program) (t : TypeId) (z : List Value) : Prop := z = [] ∨ ((P.info? t).bind (·.zero)).map (·.cells) = some z.toArray

structure TIok (P : Program) (t : TypeId) (i : TI) : Prop where
  info : (P.info? t).map (·.size) = some i.size
  kind : kindB P t i.kind = true
  zero : i.zero = [] ∨ (P.info? t).bind (·.zero) = some (match i.kind.agg with | true => .agg i.zero.toArray | false => i.zero.headD undef)

def TabOk (P : Program) (τ : Tab) : Prop := ∀ t i, tl τ t = some i → TIok P t i

def AllOk (P : Program) : Tab → Prop
  | [] => True
  | (t, i) :: r => TIok P t i ∧ AllOk P r

theorem TabOk.of_all {P : Program} {τ : Tab} (h : AllOk P τ) : TabOk P τ := by
  induction τ with
  | nil => intro t i hi; cases hi
  | cons x r ih =>
    obtain ⟨n, j⟩ := x
    intro t i hi
    unfold tl at hi
    cases hb : Nat.beq n t with
    | true =>
      rw [hb] at hi
      have := Nat.eq_of_beq_eq_true hb
      subst this
      simp only [Option.some.injEq] at hi
      subst hi
      exact h.1
    | false =>
      rw [hb] at hi
      exact ih h.2 t i hi

section
variable {P : Program} {t : TypeId} {i : TI}
theorem TIok.size_run (h : TIok P t i) (w : World) : (sizeOf t).run P w = .ok i.size w := by
  obtain ⟨inf, h1, h2⟩ := Option.map_eq_some_iff.1 h.info
  simp [sizeOf, typeInfo, h1, h2]
theorem under_isSome (h : kindB P t i.kind = true) : ∃ d, P.underlying t = some d := by
  cases hu : P.underlying t with
  | some d => exact ⟨d, rfl⟩
  | none => cases hk : i.kind <;> simp [kindB, hu, hk] at h
theorem aggB_run (w : World) (h : ∃ d, P.underlying t = some d) : (isAgg t).run P w = .ok (aggB P t) w := by
  obtain ⟨d, hd⟩ := h
  cases d <;> simp [isAgg, underlying, hd, aggB]
theorem TIok.agg_run (h : TIok P t i) (w : World) : (isAgg t).run P w = .ok i.kind.agg w := by
  rw [aggB_run w (under_isSome h.kind)]
  congr 1
  have hk := h.kind
  cases hi : i.kind <;> simp only [hi, kindB] at hk <;> (unfold aggB; split at hk <;> simp_all [TK.agg])
theorem cellsOf_run {u : TypeId} (h : (P.info? u).isSome = true) (w : World) : (sizeOf u).run P w = .ok (P.cellsOf u) w := by
  obtain ⟨inf, h1⟩ := Option.isSome_iff_exists.1 h
  simp [sizeOf, typeInfo, h1, Program.cellsOf]
end

/-! ### Stuck forms -/
structure RngC (n : Int) (p : Prop) : Prop where
  lo : -9223372036854775808 ≤ n
  hi : n ≤ 9223372036854775807
  go : p
structure IdxC (i : Int) (n : Nat) (p : Prop) : Prop where
  lo : 0 ≤ i
  hi : i < (n : Int)
  go : p
structure NzC (n : Int) (p : Prop) : Prop where
  ne : n ≠ 0
  go : p
/-- A pure operation of whatever make. -/
structure PureC (P : Program) (s : Sem Value) (k : Value → Prop) : Prop where
  ex : ∃ v, (∀ w, s.run P w = .ok v w) ∧ k v

theorem PureC.of {P : Program} {s : Sem Value} {k : Value → Prop} {v : Value} (h : ∀ w, s.run P w = .ok v w) (hk : k v) : PureC P s k := ⟨v, h, hk⟩

def br (b : Bool) (p q : Prop) : Prop := match b with | true => p | false => q
theorem brI {b : Bool} {p q : Prop} (h1 : b = true → p) (h2 : b = false → q) : br b p q := by cases b; exact h2 rfl; exact h1 rfl
theorem brD {c : Prop} [Decidable c] {p q : Prop} (h1 : c → p) (h2 : ¬ c → q) : br (decide c) p q := by
  by_cases h : c
  · rw [decide_eq_true h]; exact h1 h
  · rw [decide_eq_false h]; exact h2 h
theorem brND {c : Prop} [Decidable c] {p q : Prop} (h1 : ¬ c → p) (h2 : c → q) : br (!(decide c)) p q := by
  by_cases h : c
  · rw [decide_eq_true h]; exact h2 h
  · rw [decide_eq_false h]; exact h1 h
theorem brN {b : Bool} {p q : Prop} (h1 : b = false → p) (h2 : b = true → q) : br (!b) p q := by cases b; exact h1 rfl; exact h2 rfl
theorem brT {b : Bool} {p q : Prop} (h : b = true) (h1 : p) : br b p q := by subst h; exact h1
theorem brF {b : Bool} {p q : Prop} (h : b = false) (h1 : q) : br b p q := by subst h; exact h1
theorem br_elim {b : Bool} {p q : Prop} (h : br b p q) : (b = true ∧ p) ∨ (b = false ∧ q) := by cases b; exact .inr ⟨rfl, h⟩; exact .inl ⟨rfl, h⟩

/-! ### Lists in continuation form -/
def nth : List Value → Nat → Option Value
  | [], _ => none
  | v :: _, 0 => some v
  | _ :: r, n + 1 => nth r n
theorem nth_eq (l : List Value) (n : Nat) : nth l n = l[n]? := by
  induction l generalizing n with
  | nil => rfl
  | cons x r ih => cases n with
    | zero => rfl
    | succ n => simpa [nth] using ih n

def over (cs : List Value) (o : Nat) (vs : List Value) : List Value := cs.take o ++ vs ++ cs.drop (o + vs.length)

/-- 'vs' laid into 'cs' from 'o' on, written out. -/
def overK : List Value → Nat → List Value → (List Value → Prop) → Prop
  | cs, 0, [], k => k cs
  | [], 0, _ :: _, _ => False
  | _ :: cs, 0, v :: vs, k => overK cs 0 vs fun l => k (v :: l)
  | c :: cs, n + 1, vs, k => overK cs n vs fun l => k (c :: l)
  | [], _ + 1, _, _ => False
theorem overK_spec : ∀ (cs : List Value) (o : Nat) (vs : List Value) (k : List Value → Prop), overK cs o vs k → o + vs.length ≤ cs.length ∧ k (over cs o vs)
  | cs, 0, [], k, h => by simpa [over, overK] using h
  | [], 0, _ :: _, _, h => h.elim
  | _ :: cs, 0, v :: vs, k, h => by
    have := overK_spec cs 0 vs _ h
    refine ⟨by simpa using this.1, ?_⟩
    simpa [over] using this.2
  | c :: cs, n + 1, vs, k, h => by
    have := overK_spec cs n vs _ h
    refine ⟨by have := this.1; simp; omega, ?_⟩
    have h2 := this.2
    simp only [over, List.take_succ_cons, List.cons_append] at h2 ⊢
    have e : n + 1 + vs.length = (n + vs.length) + 1 := by omega
    rw [e, List.drop_succ_cons]
    exact h2
  | [], _ + 1, _, _, h => h.elim

/-- 'n' cells of 'cs' from 'o' on, written out. -/
def subK : List Value → Nat → Nat → (List Value → Prop) → Prop
  | _, 0, 0, k => k []
  | [], 0, _ + 1, _ => False
  | c :: cs, 0, n + 1, k => subK cs 0 n fun l => k (c :: l)
  | _ :: cs, o + 1, n, k => subK cs o n k
  | [], _ + 1, _, _ => False
theorem subK_spec : ∀ (cs : List Value) (o n : Nat) (k : List Value → Prop), subK cs o n k → o + n ≤ cs.length ∧ k ((cs.drop o).take n)
  | [], 0, 0, k, h => ⟨by simp, h⟩
  | c :: cs, 0, 0, k, h => ⟨by simp, h⟩
  | [], 0, _ + 1, _, h => h.elim
  | c :: cs, 0, n + 1, k, h => by
    have := subK_spec cs 0 n _ h
    exact ⟨by have := this.1; simp; omega, by simpa using this.2⟩
  | _ :: cs, o + 1, n, k, h => by
    have := subK_spec cs o n _ h
    exact ⟨by have := this.1; simp; omega, by simpa using this.2⟩
  | [], _ + 1, _, _, h => h.elim

def cellsL : Value → List Value
  | .agg cs => cs.toList
  | v => [v]
theorem cellsL_eq (v : Value) : cellsL v = v.cells.toList := by cases v <;> rfl

def roAll (σ : Slots) : List Operand → (List Value → Prop) → Prop
  | [], k => k []
  | x :: xs, k => match ro σ x with
    | some v => roAll σ xs fun vs => k (v :: vs)
    | none => False
theorem roAll_spec {N : Nat} {σ : Slots} {a : Act} (hf : Fits N σ a) : ∀ (xs : List Operand) (k : List Value → Prop), roAll σ xs k → k (xs.map a.eval)
  | [], k, h => h
  | x :: xs, k, h => by
    unfold roAll at h
    cases hx : ro σ x with
    | none => rw [hx] at h; exact h.elim
    | some v =>
      rw [hx] at h
      have := roAll_spec hf xs _ h
      simpa [ro_eval hf hx] using this

/-! ### Pure operations -/
/-- '&' on int. -/
def band (x y : Int) : Int := IntKind.i64.wrap ((BitVec.ofInt 64 x &&& BitVec.ofInt 64 y).toNat : Int)

def bin64 (P : Program) (op : BinOp) (x y : Int) (k : Value → Prop) : Prop :=
  match op with
  | .add => RngC (x + y) (k (.int .i64 (x + y)))
  | .sub => RngC (x - y) (k (.int .i64 (x - y)))
  | .mul => RngC (x * y) (k (.int .i64 (x * y)))
  | .eql => k (.bool (x == y))
  | .neq => k (.bool (x != y))
  | .lss => k (.bool (x < y))
  | .leq => k (.bool (x ≤ y))
  | .gtr => k (.bool (x > y))
  | .geq => k (.bool (x ≥ y))
  | .and => k (.int .i64 (band x y))
  | .rem => NzC y (k (.int .i64 (x.tmod y)))
  | .quo => NzC y (RngC (x.tdiv y) (k (.int .i64 (x.tdiv y))))
  | op => PureC P (Go.binOp op 0 (.int .i64 x) (.int .i64 y)) k

def pBin (P : Program) (τ : Tab) (op : BinOp) (t : TypeId) (cy : Bool) (x y : Value) (k : Value → Prop) : Prop :=
  match x, y with
  | .int .i64 a, .int .i64 b => bin64 P op a b k
  | .bool a, .bool b => match tl τ t with
    | some ⟨_, .bool, _⟩ => (match op with
      | .eql => k (.bool (a == b))
      | .neq => k (.bool (!(a == b)))
      | _ => False)
    | _ => False
  | .nilIface, .nilIface => match tl τ t, cy with
    | some ⟨_, .iface, _⟩, true => (match op with
      | .eql => k (.bool true)
      | .neq => k (.bool false)
      | _ => False)
    | _, _ => False
  | .iface _ _, .nilIface => match tl τ t with
    | some ⟨_, .iface, _⟩ => (match op with
      | .eql => k (.bool false)
      | .neq => k (.bool true)
      | _ => False)
    | _ => False
  | .pointer a, .pointer none => match tl τ t with
    | some ⟨_, .ptr, _⟩ => (match op with
      | .eql => k (.bool a.isNone)
      | .neq => k (.bool (!a.isNone))
      | _ => False)
    | _ => False
  | .slice a _ _, .slice none _ _ => match tl τ t with
    | some ⟨_, .slice _ _ _, _⟩ => (match op with
      | .eql => k (.bool a.isNone)
      | .neq => k (.bool (!a.isNone))
      | _ => False)
    | _ => False
  | .agg a, .agg b => PureC P (do eqGuard op t (.tmp 0) (.tmp 0) (.agg a) (.agg b); Go.binOp op t (.agg a) (.agg b)) k
  | .string a, .string b => PureC P (Go.binOp op t (.string a) (.string b)) k
  | .int q a, .int q' b => PureC P (Go.binOp op t (.int q a) (.int q' b)) k
  | _, _ => False

def isConstO : Operand → Bool
  | .const _ => true
  | _ => false

def buildK (fs : List (Nat × Nat × Bool)) (zero : List Value) : List (Nat × Value) → (List Value → Prop) → Prop
  | [], k => k zero
  | (i, v) :: r, k => match fs[i]? with
    | some (off, size, _) => (match Nat.beq (cellsL v).length size with
      | true => overK zero off (cellsL v) fun z => buildK fs z r k
      | false => False)
    | none => False

def roParts (σ : Slots) : List (Nat × Operand) → (List (Nat × Value) → Prop) → Prop
  | [], k => k []
  | (i, x) :: xs, k => match ro σ x with
    | some v => roParts σ xs fun vs => k ((i, v) :: vs)
    | none => False
theorem roParts_spec {N : Nat} {σ : Slots} {a : Act} (hf : Fits N σ a) : ∀ (xs : List (Nat × Operand)) (k : List (Nat × Value) → Prop), roParts σ xs k → k (xs.map fun p => (p.1, a.eval p.2))
  | [], k, h => h
  | (i, x) :: xs, k, h => by
    unfold roParts at h
    cases hx : ro σ x with
    | none => rw [hx] at h; exact h.elim
    | some v =>
      rw [hx] at h
      have := roParts_spec hf xs _ h
      simpa [ro_eval hf hx] using this

def pureOp (P : Program) (τ : Tab) (σ : Slots) (op : Op) (k : Value → Prop) : Prop :=
  match op with
  | .move x | .assign x => match ro σ x with
    | some v => k v
    | none => False
  | .pick c x y => match ro σ c with
    | some (.bool b) => br b (match ro σ x with | some v => k v | none => False) (match ro σ y with | some v => k v | none => False)
    | _ => False
  | .unOp .not _ x => match ro σ x with
    | some (.bool b) => k (.bool (!b))
    | _ => False
  | .unOp .neg _ x => match ro σ x with
    | some (.int .i64 n) => RngC (0 - n) (k (.int .i64 (0 - n)))
    | _ => False
  | .unOp .xor _ x => match ro σ x with
    | some (.int q n) => PureC P (Op.unary .xor (.int q n)) k
    | _ => False
  | .binOp op t x y _ => match ro σ x, ro σ y with
    | some vx, some vy => pBin P τ op t (isConstO y) vx vy k
    | _, _ => False
  | .extract x i => match ro σ x with
    | some (.tuple vs) => (match nth vs.toList i with
      | some v => k v
      | none => False)
    | _ => False
  | .nilCheck x => match ro σ x with
    | some (.pointer (some a)) => k (.pointer (some a))
    | some (.func (.func f) fs cs) => k (.func (.func f) fs cs)
    | _ => False
  | .fieldAddr s x f => match ro σ x, tl τ s with
    | some (.pointer (some ⟨b, o, none⟩)), some ⟨_, .struct fs, _⟩ => (match fs[f]? with
      | some (off, _, _) => k (.pointer (some ⟨b, o + off, none⟩))
      | none => False)
    | _, _ => False
  | .indexAddr t x i => match ro σ x, ro σ i, tl τ t with
    | some (.pointer (some ⟨b, o, none⟩)), some (.int _ j), some ⟨_, .arr n _ esz _, _⟩ => IdxC j n (k (.pointer (some ⟨b, o + j.toNat * esz, none⟩)))
    | some (.slice (some ⟨b, o, none⟩) n _), some (.int _ j), some ⟨_, .slice _ esz _, _⟩ => IdxC j n (k (.pointer (some ⟨b, o + j.toNat * esz, none⟩)))
    | _, _, _ => False
  | .index t x i => match ro σ x, ro σ i with
    | some vx, some vi => PureC P (Instr.index t vx vi) k
    | _, _ => False
  | .field t x f => match ro σ x, tl τ t with
    | some (.agg cs), some ⟨_, .struct fs, _⟩ => (match fs[f]? with
      | some (off, size, true) => subK cs.toList off size fun l => k (.agg l.toArray)
      | some (off, _, false) => (match nth cs.toList off with
        | some v => k v
        | none => False)
      | none => False)
    | _, _ => False
  | .makeInterface t x => match ro σ x, tl τ t with
    | some v, some ⟨_, kd, _⟩ => (match kd with
      | .iface => False
      | _ => k (.iface t v))
    | _, _ => False
  | .makeFunc fn first cs => roAll σ first.toList fun f => roAll σ cs.toList fun c => k (.func fn f.toArray c.toArray)
  | .build t parts => roParts σ parts.toList fun ps => match tl τ t with
    | some ⟨_, .struct fs, z :: zs⟩ => buildK fs (z :: zs) ps fun l => k (.agg l.toArray)
    | _ => PureC P (Instr.build t ps.toArray) k
  | .call { callee := .builtin .len, args := as, argTypes := ts } => roAll σ as.toList fun vs => match vs, ts.toList with
    | [.slice _ n _], [t] => (match tl τ t with
      | some ⟨_, .slice _ _ _, _⟩ => k (.int .i64 n)
      | _ => False)
    | [.string s], [t] => (match tl τ t with
      | some ⟨_, .str, _⟩ => k (.int .i64 s.size)
      | _ => False)
    | [_], [t] => (match tl τ t with
      | some ⟨_, .arr n _ _ _, _⟩ => k (.int .i64 n)
      | _ => False)
    | _, _ => False
  | .call { callee := .builtin .cap, args := as, argTypes := ts } => roAll σ as.toList fun vs => match vs, ts.toList with
    | [.slice _ _ c], [t] => (match tl τ t with
      | some ⟨_, .slice _ _ _, _⟩ => k (.int .i64 c)
      | _ => False)
    | _, _ => False
  | .call { callee := .builtin .min, args := as, argTypes := _ } => roAll σ as.toList fun vs => match vs with
    | [.int .i64 x, .int .i64 y] => k (.int .i64 (if y < x then y else x))
    | _ => False
  | .call { callee := .builtin .max, args := as, argTypes := _ } => roAll σ as.toList fun vs => match vs with
    | [.int .i64 x, .int .i64 y] => k (.int .i64 (if y > x then y else x))
    | _ => False
  | .convert s d x => match ro σ x with
    | some (.int q n) => PureC P (Go.convert s d (.int q n)) k
    | some (.string v) => PureC P (Go.convert s d (.string v)) k
    | _ => False
  | .slice t x none none none => match ro σ x, tl τ t with
    | some (.pointer (some ⟨b, o, none⟩)), some ⟨_, .arr n _ _ _, _⟩ => (match Nat.beq n 0 with
      | true => False
      | false => k (.slice (some ⟨b, o, none⟩) n n))
    | _, _ => False
  | .slice t x lo hi none => match ro σ x, (lo.elim (some none) fun y => (ro σ y).map some), (hi.elim (some none) fun y => (ro σ y).map some) with
    | some vx, some vl, some vh => PureC P (Instr.sliceAt t vx vl vh none) k
    | _, _, _ => False
  | _ => False

end Go.Proofs.YtakdekkieobbaaaDoor.Ev
