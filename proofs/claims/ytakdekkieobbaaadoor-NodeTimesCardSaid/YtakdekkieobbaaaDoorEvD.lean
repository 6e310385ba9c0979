
/-
  The evaluator on code: operations that read or change the world, guards, regions, sequence, tests, blocks, loops; and its soundness.
-/
import Derived.Test.YtakdekkieobbaaaDoorEvC
import Derived.Tactics
namespace Go.Proofs.YtakdekkieobbaaaDoor.Ev
open Go

/-! ### The world -/
def Blk (w : World) (b : Nat) (t : TypeId) (cs : List Value) : Prop := w.heap[b]? = some (.cells cs.toArray t (0, 0))
def CellsAt (w : World) (b o : Nat) (l : List Value) : Prop := ∀ i v, l[i]? = some v → w.cell? ⟨b, o + i, none⟩ = some v
def setBlk (w : World) (b : Nat) (t : TypeId) (cs : List Value) : World := { w with heap := w.heap.setIfInBounds b (.cells cs.toArray t (0, 0)) }
def pushBlk (w : World) (t : TypeId) (cs : List Value) : World := { w with heap := w.heap.push (.cells cs.toArray t (0, 0)) }
def isOne : Value → Bool
  | .agg _ | .tuple _ => false
  | _ => true

structure LdC (w : World) (b o : Nat) (k : Value → Prop) : Prop where
  ex : ∃ v, w.cell? ⟨b, o, none⟩ = some v ∧ k v
structure LdA (w : World) (b o n : Nat) (k : Value → Prop) : Prop where
  ex : ∃ l : List Value, l.length = n ∧ CellsAt w b o l ∧ k (.agg l.toArray)
structure StC (w : World) (b o : Nat) (vs : List Value) (k : World → Prop) : Prop where
  ex : ∃ t cs, Blk w b t cs ∧ o + vs.length ≤ cs.length ∧ (∀ v ∈ vs, isOne v = true) ∧ k (setBlk w b t (over cs o vs))
structure NewC (w : World) (t : TypeId) (cs : List Value) (k : Value → World → Prop) : Prop where
  ex : k (.pointer (some ⟨w.heap.size, 0, none⟩)) (pushBlk w t cs)
structure ZeroC (P : Program) (t : TypeId) (k : List Value → Prop) : Prop where
  ex : ∃ z, (P.info? t).bind (·.zero) = some z ∧ k (cellsL z)
structure CallC (P : Program) (f : FuncId) (args : Array Value) (w : World) (k : Value → World → Prop) : Prop where
  ex : ((callFunc f args).run P w = .ok (.enter f args) w ∧ Calls P f args w fun e w' => ∃ v, e = .returned v ∧ k v w') ∨ ∃ v w', (callFunc f args).run P w = .ok (.value v) w' ∧ k v w'
/-- A call of an interface's method. -/
structure InvC (P : Program) (t : TypeId) (v : Value) (name : String) (args : List Value) (w : World) (k : Value → World → Prop) : Prop where
  ex : ∃ f r, (Go.method (P.types.size + Made.depth) t v name).run P w = .ok (f, r) w ∧ CallC P f (r :: args).toArray w k
/-- '==' on two interface values that are not nil. -/
structure IfEqC (P : Program) (op : BinOp) (t : TypeId) (x y : Value) (w : World) (k : Value → Prop) : Prop where
  ex : ∃ v, (Go.binOp op t x y).run P w = .ok v w ∧ k v
structure RunC (P : Program) (s : Sem Value) (w : World) (k : Value → World → Prop) : Prop where
  ex : ∃ v w', s.run P w = .ok v w' ∧ k v w'
structure RunU (P : Program) (s : Sem Unit) (w : World) (k : World → Prop) : Prop where
  ex : ∃ w', s.run P w = .ok () w' ∧ k w'

theorem CallC.mono {P : Program} {f : FuncId} {args : Array Value} {w : World} {R k : Value → World → Prop} (h : CallC P f args w R) (hk : ∀ v w', R v w' → k v w') : CallC P f args w k :=
  ⟨by
    rcases h.ex with ⟨h1, h2⟩ | ⟨v, w', h1, h2⟩
    · exact .inl ⟨h1, h2.mono fun _ _ ⟨v, he, hv⟩ => ⟨v, he, hk _ _ hv⟩⟩
    · exact .inr ⟨v, w', h1, hk _ _ h2⟩⟩
/-- Of a function that has a body. -/
theorem CallC.calls {P : Program} {f : FuncId} {fn : Func} {args : Array Value} {w : World} {k : Value → World → Prop} (h : CallC P f args w k) (hf : P.funcs[f]? = some fn) (hb : fn.body.isNone = false) : Calls P f args w fun e w' => ∃ v, e = .returned v ∧ k v w' := by
  rcases h.ex with ⟨_, h2⟩ | ⟨v, w', h1, _⟩
  · exact h2
  · exfalso
    unfold callFunc at h1
    have hb' : ¬ fn.body = none := by
      intro h
      rw [h] at hb
      cases hb
    by_cases hn : fn.name = "runtime.NumGoroutine" <;> simp [program, Sem.run, hf, hb', hn] at h1
/-- A function that the model gives. -/
theorem CallC.extern {P : Program} {f : FuncId} {args : Array Value} {w w' : World} {v : Value} {k : Value → World → Prop} (h : (callFunc f args).run P w = .ok (.value v) w') (hk : k v w') : CallC P f args w k := ⟨.inr ⟨v, w', h, hk⟩⟩

/-! ### Operations on the world -/
def worldOp (P : Program) (τ : Tab) (σ : Slots) (op : Op) (w : World) (k : Value → World → Prop) : Prop :=
  match op with
  | .load t x => match ro σ x, tl τ t with
    | some (.pointer (some ⟨b, o, none⟩)), some ⟨n, kd, _⟩ => (match kd.agg with
      | true => LdA w b o n fun v => k v w
      | false => LdC w b o fun v => k v w)
    | _, _ => False
  | .store t x y => match ro σ x, ro σ y, tl τ t with
    | some (.pointer (some ⟨b, o, none⟩)), some v, some ⟨n, _, _⟩ => (match Nat.beq (cellsL v).length n with
      | true => StC w b o (cellsL v) fun w' => k undef w'
      | false => False)
    | _, _, _ => False
  | .box t x => match ro σ x with
    | some v => NewC w t (cellsL v) k
    | none => False
  | .alloc t => match tl τ t with
    | some ⟨_, kd, z :: zs⟩ => (match kd.agg, zs, isOne z with
      | true, zs, _ => NewC w t (z :: zs) k
      | false, [], true => NewC w t [z] k
      | _, _, _ => False)
    | _ => ZeroC P t fun cs => NewC w t cs k
  | .call { callee := .value f, args := as, argTypes := _ } => match ro σ f with
    | some (.func (.func g) first caps) => roAll σ as.toList fun vs => (match first.toList, caps.toList with
      | [], [] => CallC P g vs.toArray w k
      | [], c :: cs => CallC P g (vs ++ (c :: cs)).toArray w k
      | x :: xs, cs => CallC P g ((x :: xs) ++ vs ++ cs).toArray w k)
    | _ => False
  | .call { callee := .invoke x name, args := as, argTypes := _ } => match ro σ x with
    | some (.iface t v) => roAll σ as.toList fun vs => InvC P t v name vs w k
    | _ => False
  | .call { callee := .builtin .append, args := as, argTypes := ts } => roAll σ as.toList fun vs => RunC P (Builtin.append_ ts 0 vs.toArray) w k
  | .call { callee := .builtin .copy, args := as, argTypes := ts } => roAll σ as.toList fun vs => RunC P (Builtin.copy_ ts 0 vs.toArray) w k
  | .buildSlice t n parts => roParts σ parts.toList fun ps => RunC P (Instr.buildSlice t n ps.toArray) w k
  | .makeSlice t l c => match ro σ l, ro σ c with
    | some vl, some vc => RunC P (Instr.makeSlice t vl vc) w k
    | _, _ => False
  | .makeMap t none => RunC P (Instr.makeMap t none) w k
  | .lookup t x i ok => match ro σ x, ro σ i with
    | some vx, some vi => RunC P (Instr.lookup t vx vi ok) w k
    | _, _ => False
  | .mapUpdate t m x y => match ro σ m, ro σ x, ro σ y with
    | some vm, some vx, some vy => RunU P (Instr.mapUpdate t vm vx vy) w fun w' => k undef w'
    | _, _, _ => False
  | .insert t m x y => match ro σ m, ro σ x, ro σ y with
    | some vm, some vx, some vy => RunU P (Instr.mapUpdate t vm vx vy) w fun w' => k undef w'
    | _, _, _ => False
  | .convert s d x => match ro σ x with
    | some v => RunC P (Go.convert s d v) w k
    | none => False
  | .typeAssert x t u ok => match ro σ x with
    | some v => RunC P (Instr.typeAssert v t u ok) w k
    | none => False
  | _ => False

def isPure : Op → Bool
  | .move _ | .assign _ | .pick .. | .unOp .. | .binOp .. | .extract .. | .nilCheck _ | .fieldAddr .. | .indexAddr .. | .index .. | .field .. | .makeInterface .. | .makeFunc .. | .build .. | .slice .. => true
  | .call { callee := .builtin .len, .. } | .call { callee := .builtin .cap, .. } | .call { callee := .builtin .min, .. } | .call { callee := .builtin .max, .. } => true
  | _ => false

def isBool : Value → Bool
  | .bool _ => true
  | _ => false

def put1 (N : Nat) (dst : Option Nat) (v : Value) (σ : Slots) (k : Slots → Prop) : Prop :=
  match dst with
  | none => k σ
  | some d => match Nat.blt d N with
    | true => k ((d, v) :: σ)
    | false => False

def dstAt : List Oper → Nat → Option Nat
  | [], _ => none
  | o :: _, 0 => o.dst
  | _ :: r, n + 1 => dstAt r n

/-- A guard: 'yes' where the operation is carried out, 'no' where it is passed over. -/
def guardK (N : Nat) (ops : List Oper) (g : Option (Nat × Bool)) (σ : Slots) (yes no : Slots → Prop) : Prop :=
  match g with
  | none => yes σ
  | some (j, want) => match dstAt ops j with
    | none => False
    | some d => match look σ d with
      | some (.bool b) => (match want with
        | true => br b (yes ((d, .bool true) :: σ)) (no ((d, .bool false) :: σ))
        | false => br b (no ((d, .bool true) :: σ)) (yes ((d, .bool false) :: σ)))
      | some v => (match isBool v with
        | true => False
        | false => no σ)
      | none => False

/-- Two interface values that are compared? -/
def ifaces (σ : Slots) : Op → Option (BinOp × TypeId × Value × Value)
  | .binOp op t x y _ => match ro σ x, ro σ y with
    | some (.iface a u), some (.iface b v) => some (op, t, .iface a u, .iface b v)
    | _, _ => none
  | _ => none

def evOps (P : Program) (τ : Tab) (N : Nat) (ops : List Oper) : List Oper → (Slots → World → Prop) → Slots → World → Prop
  | [], Q, σ, w => Q σ w
  | ⟨dst, op, _, _, _, g⟩ :: rest, Q, σ, w =>
    guardK N ops g σ
      (fun σ => match isPure op with
        | true => (match ifaces σ op with
          | some (bop, t, x, y) => IfEqC P bop t x y w fun v => put1 N dst v σ fun σ => evOps P τ N ops rest Q σ w
          | none => pureOp P τ σ op fun v => put1 N dst v σ fun σ => evOps P τ N ops rest Q σ w)
        | false => worldOp P τ σ op w fun v w => put1 N dst v σ fun σ => evOps P τ N ops rest Q σ w)
      (fun σ => put1 N dst undef σ fun σ => evOps P τ N ops rest Q σ w)

def lift (N : Nat) (Q : Exit → Slots → World → Prop) : Exit → Act → World → Prop
  | .normal, a, w => ∃ σ, Fits N σ a ∧ Q .normal σ w
  | .exit i, a, w => ∃ σ, Fits N σ a ∧ Q (.exit i) σ w
  | .ret, a, w => ∃ σ, Fits N σ a ∧ Q .ret σ w
  | _, _, _ => False

structure DrawC (P : Program) (τ : Tab) (N : Nat) (ops : Array Oper) (Q : Slots → World → Prop) (σ : Slots) (w : World) : Prop where
  go : ∀ id a, Fits N σ a → (Code.region id ops true).wp P (fun e a' w' => e = .normal ∧ ∃ σ', Fits N σ' a' ∧ Q σ' w') a w
structure LoopC (P : Program) (τ : Tab) (N : Nat) (body : Code) (Q : Exit → Slots → World → Prop) (σ : Slots) (w : World) : Prop where
  go : ∀ a, Fits N σ a → (Code.loop body).wp P (lift N Q) a w

def ev (P : Program) (τ : Tab) (N : Nat) : Code → (Exit → Slots → World → Prop) → Slots → World → Prop
  | .skip, Q, σ, w => Q .normal σ w
  | .region _ ops false, Q, σ, w => evOps P τ N ops.toList ops.toList (fun σ w => Q .normal σ w) σ w
  | .region _ ops true, Q, σ, w => DrawC P τ N ops (fun σ w => Q .normal σ w) σ w
  | .seq x y, Q, σ, w => ev P τ N x (fun e σ w => match e with
    | .normal => ev P τ N y Q σ w
    | e => Q e σ w) σ w
  | .cond c x y, Q, σ, w => match ro σ c with
    | some (.bool b) => br b (ev P τ N x Q σ w) (ev P τ N y Q σ w)
    | _ => False
  | .block id c, Q, σ, w => ev P τ N c (fun e σ w => match e with
    | .exit i => (match Nat.beq i id with
      | true => Q .normal σ w
      | false => Q (.exit i) σ w)
    | e => Q e σ w) σ w
  | .loop c, Q, σ, w => LoopC P τ N c Q σ w
  | .exit i, Q, σ, w => Q (.exit i) σ w
  | .ret, Q, σ, w => Q .ret σ w
  | _, _, _, _ => False

/-! ### Soundness -/
section
variable {P : Program} {τ : Tab} {N : Nat} {σ : Slots} {a : Act} {w : World}

theorem Blk.lt {b : Nat} {t : TypeId} {cs : List Value} (h : Blk w b t cs) : b < w.heap.size := (Array.getElem?_eq_some_iff.1 h).1
theorem Blk.cell {b : Nat} {t : TypeId} {cs : List Value} (h : Blk w b t cs) (o : Nat) : w.cell? ⟨b, o, none⟩ = cs[o]? := by
  unfold Blk at h
  simp [World.cell?, h]
theorem Blk.frozen {b : Nat} {t : TypeId} {cs : List Value} (h : Blk w b t cs) (o : Nat) : w.frozen? ⟨b, o, none⟩ = false := by
  unfold Blk at h
  simp [World.frozen?, h]

theorem loadCells_run (b o : Nat) : ∀ (l : List Value) (i : Nat) (acc : Array Value), (∀ j v, l[j]? = some v → w.cell? ⟨b, o + (i + j), none⟩ = some v) →
    (loadCellsFrom ⟨b, o, none⟩ i l.length acc).run P w = .ok (acc ++ l.toArray) w := by
  intro l
  induction l with
  | nil => intro i acc _; simp [loadCellsFrom]
  | cons x l ih =>
    intro i acc h
    have h0 := h 0 x rfl
    rw [List.length_cons, loadCellsFrom, Sem.run_bind]
    have e : (load ((⟨b, o, none⟩ : Addr).add i)).run P w = .ok x w := by
      rw [add_none]
      simp [load, Sem.run, show w.cell? ⟨b, o + i, none⟩ = some x by simpa using h0]
    rw [e, Result.andThen_ok, ih (i + 1) (acc.push x) (fun j v hj => by
      have := h (j + 1) v (by simpa using hj)
      rw [show i + 1 + j = i + (j + 1) by omega]; exact this)]
    simp

theorem load_sound {t : TypeId} {n : Nat} {kd : TK} {z : List Value} {b o : Nat} (hτ : TabOk P τ) (ht : tl τ t = some ⟨n, kd, z⟩) {k : Value → Prop}
    (h : match kd.agg with | true => LdA w b o n k | false => LdC w b o k) : ∃ v, (Instr.loadAt t (.pointer (some ⟨b, o, none⟩))).run P w = .ok v w ∧ k v := by
  have hok := hτ t _ ht
  have hagg := hok.agg_run w
  have hsz := hok.size_run w
  cases hk : kd.agg with
  | true =>
    rw [hk] at h hagg
    obtain ⟨l, hl, hc, hv⟩ := h.ex
    refine ⟨_, ?_, hv⟩
    have := loadCells_run (P := P) (w := w) b o l 0 #[] (fun j v hj => by simpa using hc j v hj)
    have hsz' : (sizeOf t).run P w = .ok l.length w := by rw [hl]; exact hsz
    simp [Instr.loadAt, Instr.sureAddr, loadVar, hagg, hsz', loadCells, this]
  | false =>
    rw [hk] at h hagg
    obtain ⟨v, hc, hv⟩ := h.ex
    refine ⟨v, ?_, hv⟩
    simp [Instr.loadAt, Instr.sureAddr, loadVar, hagg, load, Sem.run, hc]

theorem store_one (v : Value) (hv : isOne v = true) (b o : Nat) (old : Value) (hc : w.cell? ⟨b, o, none⟩ = some old) (hf : w.frozen? ⟨b, o, none⟩ = false) :
    (store ⟨b, o, none⟩ v).run P w = .ok () (w.setCell ⟨b, o, none⟩ v) := by
  cases v <;> simp [isOne] at hv <;> simp [store, Sem.run, hc, hf]

theorem setBlk_blk {b : Nat} {t : TypeId} {cs : List Value} (hb : b < w.heap.size) : Blk (setBlk w b t cs) b t cs := by
  simp [Blk, setBlk, hb]
theorem setCell_eq {b o : Nat} {t : TypeId} {cs : List Value} (h : Blk w b t cs) (v : Value) : w.setCell ⟨b, o, none⟩ v = setBlk w b t (cs.set o v) := by
  unfold Blk at h
  obtain ⟨hb, he⟩ := Array.getElem?_eq_some_iff.1 h
  unfold World.setCell setBlk
  congr 1
  apply Array.ext_getElem?
  intro i
  rw [Array.getElem?_modify, Array.getElem?_setIfInBounds]
  by_cases hi : b = i
  · subst hi
    simp [he, hb]
  · rw [if_neg hi, if_neg hi]
theorem setBlk_setBlk {b : Nat} {t : TypeId} {cs ds : List Value} : setBlk (setBlk w b t cs) b t ds = setBlk w b t ds := by
  simp [setBlk]

theorem storeCells_run (b : Nat) (t : TypeId) : ∀ (vs : List Value) (o i : Nat) (w : World) (cs : List Value), Blk w b t cs → (∀ v ∈ vs, isOne v = true) → o + i + vs.length ≤ cs.length →
    (storeCells ⟨b, o, none⟩ vs i).run P w = .ok () (setBlk w b t (over cs (o + i) vs)) := by
  intro vs
  induction vs with
  | nil =>
    intro o i w cs hb _ _
    have e : over cs (o + i) [] = cs := by simp [over]
    have : setBlk w b t cs = w := by
      unfold Blk at hb
      obtain ⟨hl, he⟩ := Array.getElem?_eq_some_iff.1 hb
      unfold setBlk
      have : w.heap.setIfInBounds b (Obj.cells cs.toArray t (0, 0)) = w.heap := by
        apply Array.ext_getElem?
        intro i
        rw [Array.getElem?_setIfInBounds]
        by_cases hi : b = i
        · subst hi
          simp [he, hl]
        · rw [if_neg hi]
      rw [this]
    rw [e, this]
    rfl
  | cons v vs ih =>
    intro o i w cs hb h1 hle
    have hlt : o + i < cs.length := by simp at hle; omega
    have hc : w.cell? ⟨b, o + i, none⟩ = some cs[o + i] := by rw [hb.cell, List.getElem?_eq_getElem hlt]
    have hs := store_one (P := P) (w := w) v (h1 v (by simp)) b (o + i) _ hc (hb.frozen _)
    rw [storeCells, Sem.run_bind, add_none, hs, Result.andThen_ok, setCell_eq hb]
    rw [ih o (i + 1) _ (cs.set (o + i) v) (setBlk_blk hb.lt) (fun u hu => h1 u (by simp [hu])) (by simp at hle ⊢; omega), setBlk_setBlk]
    congr 2
    unfold over
    simp only [List.length_cons] at hle ⊢
    rw [List.take_set, List.drop_set_of_lt (by omega)]
    have e1 : o + (i + 1) = (o + i) + 1 := by omega
    have e2 : o + i + 1 + vs.length = o + i + (vs.length + 1) := by omega
    rw [e1, e2, List.take_succ_eq_append_getElem (by omega), List.set_append_right (o + i) v (by simp; omega)]
    simp [Nat.min_eq_left (show o + i ≤ cs.length by omega)]

theorem store_sound {t : TypeId} {n : Nat} {kd : TK} {z : List Value} {b o : Nat} {v : Value} (hτ : TabOk P τ) (ht : tl τ t = some ⟨n, kd, z⟩) {k : World → Prop} (hn : (cellsL v).length = n) (h : StC w b o (cellsL v) k) :
    ∃ w', (Instr.storeAt t (.pointer (some ⟨b, o, none⟩)) v).run P w = .ok () w' ∧ k w' := by
  have hsz := (hτ t _ ht).size_run w
  obtain ⟨t', cs, hb, hle, h1, hk⟩ := h.ex
  refine ⟨_, ?_, hk⟩
  have hc : v.cells.size = n := by rw [← hn, cellsL_eq]; simp
  have := storeCells_run (P := P) b t' (cellsL v) o 0 w cs hb h1 (by simpa using hle)
  have hsz' : (sizeOf t).run P w = .ok n w := hsz
  simp [Instr.storeAt, Instr.sureAddr, storeVar, hsz', hc, ← cellsL_eq, this]

theorem zero_run {t : TypeId} {z : Value} (h : (P.info? t).bind (·.zero) = some z) (w : World) : (zeroValue t).run P w = .ok z w := by
  obtain ⟨inf, h1, h2⟩ := Option.bind_eq_some_iff.1 h
  simp [zeroValue, typeInfo, h1, h2]

theorem wp_value {o : Oper} {Q : Exit → Act → World → Prop} {v : Value} {w' : World} {k : Act → World → Prop} (h : (execOp a.eval o).run P w = .ok (.value v) w') (hk : k (a.put o.dst v) w') : o.wp P a w k Q := by
  unfold Oper.wp
  rw [h]
  exact hk
theorem wp_skipped {o : Oper} {Q : Exit → Act → World → Prop} {w' : World} {k : Act → World → Prop} (h : (execOp a.eval o).run P w = .ok .skip w') (hk : k (a.put o.dst undef) w') : o.wp P a w k Q := by
  unfold Oper.wp
  rw [h]
  exact hk
theorem vrun {s : Sem Value} {v : Value} {w' : World} (h : s.run P w = .ok v w') : (do pure (Next.value (← s)) : Sem Next).run P w = .ok (.value v) w' := by
  simp [h]
theorem urun {s : Sem Unit} {w' : World} (h : s.run P w = .ok () w') : (do s; pure Next.skip : Sem Next).run P w = .ok .skip w' := by
  simp [h]

theorem new_run {t : TypeId} {v : Value} : (Instr.box t v).run P w = .ok (.pointer (some ⟨w.heap.size, 0, none⟩)) (pushBlk w t (cellsL v)) := by
  simp [Instr.box, newVar, newRow, newObj, Sem.run, pushBlk, cellsL_eq]
theorem alloc_run {t : TypeId} {z : Value} (h : (P.info? t).bind (·.zero) = some z) : (Instr.alloc t true (.tuple #[])).run P w = .ok (.pointer (some ⟨w.heap.size, 0, none⟩)) (pushBlk w t (cellsL z)) := by
  simp [Instr.alloc, zero_run h, newVar, newRow, newObj, Sem.run, pushBlk, cellsL_eq]

theorem callC_wp {o : Oper} {Q : Exit → Act → World → Prop} {g : FuncId} {args : Array Value} {k : Value → World → Prop} (he : (execOp a.eval o).run P w = (callFunc g args).run P w) (h : CallC P g args w k) :
    o.wp P a w (fun a' w' => ∃ v, a' = a.put o.dst v ∧ k v w') Q := by
  unfold Oper.wp
  rw [he]
  rcases h.ex with ⟨h1, h2⟩ | ⟨v, w', h1, h2⟩
  · rw [h1]
    refine Calls.mono h2 ?_
    rintro e w' ⟨v, rfl, hv⟩
    exact ⟨v, rfl, hv⟩
  · rw [h1]
    exact ⟨v, rfl, h2⟩

theorem cellsL_one {z : Value} (h : isOne z = true) : cellsL z = [z] := by cases z <;> simp_all [isOne, cellsL]

theorem world_sound (hτ : TabOk P τ) (hf : Fits N σ a) {o : Oper} {k : Value → World → Prop} (h : worldOp P τ σ o.op w k) (Q : Exit → Act → World → Prop) :
    o.wp P a w (fun a' w' => ∃ v, a' = a.put o.dst v ∧ k v w') Q := by
  obtain ⟨dst, op, ty, pos, after, guard⟩ := o
  simp only at h
  unfold worldOp at h
  split at h
  · split at h
    · rename_i hx ht
      obtain ⟨v, hr, hk⟩ := load_sound hτ ht h
      exact wp_value (by simp only [execOp, ro_eval hf hx]; exact vrun hr) ⟨v, rfl, hk⟩
    · exact h.elim
  · split at h
    · rename_i hx hy ht
      split at h
      · rename_i hn
        obtain ⟨w', hr, hk⟩ := store_sound hτ ht (Nat.eq_of_beq_eq_true hn) h
        exact wp_skipped (by simp only [execOp, ro_eval hf hx, ro_eval hf hy]; exact urun hr) ⟨undef, rfl, hk⟩
      · exact h.elim
    · exact h.elim
  · split at h
    · rename_i hx
      exact wp_value (by simp only [execOp, ro_eval hf hx]; exact vrun new_run) ⟨_, rfl, h.ex⟩
    · exact h.elim
  · split at h
    · rename_i ht
      have hok := (hτ _ _ ht).zero.resolve_left (by simp)
      simp only at hok
      split at h
      · rename_i hk
        rw [hk] at hok
        exact wp_value (by simp only [execOp]; exact vrun (alloc_run hok)) ⟨_, rfl, h.ex⟩
      · rename_i hk hone
        rw [hk] at hok
        simp only [List.headD_cons] at hok
        exact wp_value (by simp only [execOp]; exact vrun (alloc_run hok)) ⟨_, rfl, by rw [cellsL_one hone]; exact h.ex⟩
      · exact h.elim
    · obtain ⟨z, hz, hk⟩ := h.ex
      exact wp_value (by simp only [execOp]; exact vrun (alloc_run hz)) ⟨_, rfl, hk.ex⟩
  · split at h
    · rename_i f as ts _ g first caps hx
      have h1 := roAll_spec hf _ _ h
      have hmap : as.map a.eval = (as.toList.map a.eval).toArray := by rw [← List.map_toArray]
      have e : ∀ o : Oper, o.op = .call ⟨.value f, as, ts⟩ → (execOp a.eval o).run P w = (callFunc g (first.toList ++ as.toList.map a.eval ++ caps.toList).toArray).run P w := by
        rintro ⟨_, _, _, _, _, _⟩ rfl
        simp only [execOp, resolve, ro_eval hf hx, Deferred.ofValue, Sem.run_bind, Sem.run_pure, Result.andThen_ok, invoke, hmap]
        congr 2
        simp
      split at h1
      · rename_i h2 h3
        refine callC_wp (g := g) ?_ h1
        rw [e _ rfl, h2, h3]
        simp
      · rename_i h2 h3
        refine callC_wp (g := g) ?_ h1
        rw [e _ rfl, h2, h3]
        simp
      · rename_i h2
        refine callC_wp (g := g) ?_ h1
        rw [e _ rfl, h2]
    · exact h.elim
  · split at h
    · rename_i x name as ts _ t v hx
      obtain ⟨f, r, hm, hc⟩ := (roAll_spec hf _ _ h).ex
      refine callC_wp (g := f) ?_ hc
      have hmap : #[Value.iface t v] ++ as.map a.eval = #[Value.iface t v] ++ (as.toList.map a.eval).toArray := by rw [← List.map_toArray]
      simp only [execOp, resolve, ro_eval hf hx, Sem.run_bind, Sem.run_pure, Result.andThen_ok, invoke, hmap]
      simp [callMethod, program, Sem.run_bind]
      rw [show (Sem.run P (Sem.program Sem.pure) w) = .ok P w from rfl]
      simp only [Result.andThen_ok, hm]
      rw [List.take_of_length_le (by simp)]
    · exact h.elim
  · rename_i as ts
    have h1 := roAll_spec hf _ _ h
    obtain ⟨v, w', hr, hk⟩ := h1.ex
    have hmap : as.map a.eval = (as.toList.map a.eval).toArray := by rw [← List.map_toArray]
    refine wp_value ?_ ⟨v, rfl, hk⟩
    simp only [execOp, resolve, Sem.run_bind, Sem.run_pure, Result.andThen_ok, invoke, builtin, hmap]
    rw [show Builtin.append_ ts ty = Builtin.append_ ts 0 from rfl, hr]
    rfl
  · rename_i as ts
    have h1 := roAll_spec hf _ _ h
    obtain ⟨v, w', hr, hk⟩ := h1.ex
    have hmap : as.map a.eval = (as.toList.map a.eval).toArray := by rw [← List.map_toArray]
    refine wp_value ?_ ⟨v, rfl, hk⟩
    simp only [execOp, resolve, Sem.run_bind, Sem.run_pure, Result.andThen_ok, invoke, builtin, hmap]
    rw [show Builtin.copy_ ts ty = Builtin.copy_ ts 0 from rfl, hr]
    rfl
  · have h1 := roParts_spec hf _ _ h
    obtain ⟨v, w', hr, hk⟩ := h1.ex
    refine wp_value ?_ ⟨v, rfl, hk⟩
    simp only [execOp]
    refine vrun ?_
    rw [← hr]
    congr 2
    rw [← List.map_toArray]
  · split at h
    · rename_i hl hc
      obtain ⟨v, w', hr, hk⟩ := h.ex
      exact wp_value (by simp only [execOp, ro_eval hf hl, ro_eval hf hc]; exact vrun hr) ⟨v, rfl, hk⟩
    · exact h.elim
  · obtain ⟨v, w', hr, hk⟩ := h.ex
    exact wp_value (by simp only [execOp, Option.map_none]; exact vrun hr) ⟨v, rfl, hk⟩
  · split at h
    · rename_i hl hc
      obtain ⟨v, w', hr, hk⟩ := h.ex
      exact wp_value (by simp only [execOp, ro_eval hf hl, ro_eval hf hc]; exact vrun hr) ⟨v, rfl, hk⟩
    · exact h.elim
  · split at h
    · rename_i h1 h2 h3
      obtain ⟨w', hr, hk⟩ := h.ex
      exact wp_skipped (by simp only [execOp, ro_eval hf h1, ro_eval hf h2, ro_eval hf h3]; exact urun hr) ⟨_, rfl, hk⟩
    · exact h.elim
  · split at h
    · rename_i h1 h2 h3
      obtain ⟨w', hr, hk⟩ := h.ex
      exact wp_skipped (by simp only [execOp, ro_eval hf h1, ro_eval hf h2, ro_eval hf h3]; exact urun hr) ⟨_, rfl, hk⟩
    · exact h.elim
  · split at h
    · rename_i hx
      obtain ⟨v, w', hr, hk⟩ := h.ex
      exact wp_value (by simp only [execOp, ro_eval hf hx]; exact vrun hr) ⟨v, rfl, hk⟩
    · exact h.elim
  · split at h
    · rename_i hx
      obtain ⟨v, w', hr, hk⟩ := h.ex
      exact wp_value (by simp only [execOp, ro_eval hf hx]; exact vrun hr) ⟨v, rfl, hk⟩
    · exact h.elim
  · exact h.elim

theorem put1_sound (hf : Fits N σ a) {dst : Option Nat} {v : Value} {k : Slots → Prop} (h : put1 N dst v σ k) : ∃ σ', Fits N σ' (a.put dst v) ∧ k σ' := by
  unfold put1 at h
  split at h
  · exact ⟨σ, hf, h⟩
  · split at h
    · rename_i hb
      exact ⟨_, hf.put (by simpa [Nat.blt_eq] using hb) v, h⟩
    · exact h.elim

theorem dstAt_eq (l : List Oper) (j : Nat) : dstAt l j = (l[j]?).bind (·.dst) := by
  induction l generalizing j with
  | nil => rfl
  | cons o r ih => cases j with
    | zero => rfl
    | succ j => simpa [dstAt] using ih j

theorem Fits.cons {d : Nat} {v : Value} (hf : Fits N σ a) (h : look σ d = some v) : Fits N ((d, v) :: σ) a := by
  refine ⟨hf.size, hf.defers, fun n u hn => ?_⟩
  unfold look at hn
  cases hb : Nat.beq d n with
  | true =>
    rw [hb] at hn
    have := Nat.eq_of_beq_eq_true hb
    subst this
    simp only [Option.some.injEq] at hn
    subst hn
    exact hf.vals _ _ h
  | false =>
    rw [hb] at hn
    exact hf.vals n u hn

theorem guard_sound (hf : Fits N σ a) {ops : Array Oper} {o : Oper} {yes no : Slots → Prop} (h : guardK N ops.toList o.guard σ yes no) :
    (Region.wanted o (yielded ops a.tmps) = true ∧ ∃ σ', Fits N σ' a ∧ yes σ') ∨ (Region.wanted o (yielded ops a.tmps) = false ∧ ∃ σ', Fits N σ' a ∧ no σ') := by
  unfold guardK at h
  split at h
  · rename_i hg
    exact .inl ⟨by simp [Region.wanted, hg], σ, hf, h⟩
  · rename_i j want hg
    split at h
    · exact h.elim
    · rename_i d hd
      rw [dstAt_eq] at hd
      split at h
      · rename_i b hb
        have hy : yielded ops a.tmps j = some b := by
          have := hf.vals d _ hb
          have hd' : (ops[j]?).bind (·.dst) = some d := by simpa using hd
          unfold yielded
          rw [hd']
          simp [this]
        have hw : Region.wanted o (yielded ops a.tmps) = (b == want) := by
          simp only [Region.wanted, hg, hy]
          cases b <;> cases want <;> rfl
        rw [hw]
        split at h
        · rcases br_elim h with ⟨rfl, h2⟩ | ⟨rfl, h2⟩
          · exact .inl ⟨rfl, _, hf.cons hb, h2⟩
          · exact .inr ⟨rfl, _, hf.cons hb, h2⟩
        · rcases br_elim h with ⟨rfl, h2⟩ | ⟨rfl, h2⟩
          · exact .inr ⟨rfl, _, hf.cons hb, h2⟩
          · exact .inl ⟨rfl, _, hf.cons hb, h2⟩
      · rename_i v _ hb
        split at h
        · exact h.elim
        · rename_i hv _
          have hy : yielded ops a.tmps j = none := by
            have := hf.vals d _ hb
            have hd' : (ops[j]?).bind (·.dst) = some d := by simpa using hd
            unfold yielded
            rw [hd']
            cases v <;> simp_all [isBool]
          have hw : Region.wanted o (yielded ops a.tmps) = false := by
            simp only [Region.wanted, hg, hy]
            cases want <;> rfl
          exact .inr ⟨hw, σ, hf, h⟩
      · exact h.elim

theorem yv_wp {o : Oper} {Q : Exit → Act → World → Prop} {v : Value} {k : Act → World → Prop} (h : Yv P o a v) (hk : k (a.put o.dst v) w) : o.wp P a w k Q := wp_value (h w) hk

theorem ifaces_run (hf : Fits N σ a) {o : Oper} {bop : BinOp} {t : TypeId} {x y v : Value} (h : ifaces σ o.op = some (bop, t, x, y)) (hv : (Go.binOp bop t x y).run P w = .ok v w) : (execOp a.eval o).run P w = .ok (.value v) w := by
  obtain ⟨dst, op, ty, pos, after, g⟩ := o
  simp only at h
  unfold ifaces at h
  split at h
  · split at h
    · rename_i hx hy
      simp only [Option.some.injEq, Prod.mk.injEq] at h
      obtain ⟨rfl, rfl, rfl, rfl⟩ := h
      simp only [execOp, ro_eval hf hx, ro_eval hf hy]
      refine vrun ?_
      have hg : ∀ (bop : BinOp) (t : TypeId) (x y : Operand) (c d : TypeId) (u v : Value), (eqGuard bop t x y (.iface c u) (.iface d v)).run P w = .ok () w := by
        intro bop t x y c d u v
        unfold eqGuard
        cases bop <;> rfl
      rw [Sem.run_bind, hg, Result.andThen_ok, hv]
    · cases h
  · cases h

theorem ops_sound (hτ : TabOk P τ) {ops : Array Oper} {R : Exit → Act → World → Prop} {Q : Slots → World → Prop} (hQ : ∀ a w σ, Fits N σ a → Q σ w → R .normal a w) :
    ∀ (l : List Oper) (σ : Slots) (a : Act) (w : World), Fits N σ a → evOps P τ N ops.toList l Q σ w → wpList P ops R l a w
  | [], σ, a, w, hf, h => hQ a w σ hf h
  | o :: rest, σ, a, w, hf, h => by
    obtain ⟨dst, op, ty, pos, after, g⟩ := o
    unfold evOps at h
    unfold wpList
    rcases guard_sound (o := ⟨dst, op, ty, pos, after, g⟩) hf h with ⟨hw, σ', hf', h2⟩ | ⟨hw, σ', hf', h2⟩
    · rw [if_pos hw]
      refine .inl ?_
      split at h2
      · split at h2
        · rename_i hif
          obtain ⟨v, hv, h3⟩ := h2.ex
          obtain ⟨σ'', hf'', h4⟩ := put1_sound hf' h3
          exact wp_value (ifaces_run hf' (o := ⟨dst, op, ty, pos, after, g⟩) hif hv) (ops_sound hτ hQ rest σ'' _ w hf'' h4)
        · obtain ⟨v, hv, h3⟩ := pure_sound (o := ⟨dst, op, ty, pos, after, g⟩) hτ hf' h2
          obtain ⟨σ'', hf'', h4⟩ := put1_sound hf' h3
          exact yv_wp hv (ops_sound hτ hQ rest σ'' _ w hf'' h4)
      · refine Oper.wp_mono ?_ (world_sound (o := ⟨dst, op, ty, pos, after, g⟩) hτ hf' h2 R)
        rintro a' w' ⟨v, rfl, h3⟩
        obtain ⟨σ'', hf'', h4⟩ := put1_sound hf' h3
        exact ops_sound hτ hQ rest σ'' _ w' hf'' h4
    · rw [if_neg (by simp [hw])]
      obtain ⟨σ'', hf'', h4⟩ := put1_sound hf' h2
      exact ops_sound hτ hQ rest σ'' _ w hf'' h4

theorem ev_sound (hτ : TabOk P τ) : ∀ (c : Code) (Q : Exit → Slots → World → Prop) (σ : Slots) (a : Act) (w : World), Fits N σ a → ev P τ N c Q σ w → c.wp P (lift N Q) a w
  | .skip, Q, σ, a, w, hf, h => wp_skip ⟨σ, hf, h⟩
  | .region id ops false, Q, σ, a, w, hf, h => by
    refine wp_region_list (ops_sound hτ (Q := fun σ w => Q .normal σ w) ?_ ops.toList σ a w hf h)
    exact fun a w σ hf hq => ⟨σ, hf, hq⟩
  | .region id ops true, Q, σ, a, w, hf, h => by
    have h : DrawC P τ N ops (fun σ w => Q .normal σ w) σ w := h
    refine wp_mono (h.go id a hf) ?_
    rintro e a w ⟨rfl, σ', hf', hq⟩
    exact ⟨σ', hf', hq⟩
  | .seq x y, Q, σ, a, w, hf, h => by
    refine wp_seq (wp_mono (ev_sound hτ x _ σ a w hf h) ?_)
    intro e a w hq
    cases e with
    | normal =>
      obtain ⟨σ', hf', hq⟩ := hq
      exact ev_sound hτ y Q σ' a w hf' hq
    | exit i => exact hq
    | ret => exact hq
    | goto l => exact hq.elim
    | panic c => exact hq.elim
    | outgrown => exact hq.elim
  | .cond c x y, Q, σ, a, w, hf, h => by
    unfold ev at h
    split at h
    · rename_i b hb
      refine wp_cond_split (ro_eval hf hb) (fun ht => ?_) (fun ht => ?_)
      · subst ht; exact ev_sound hτ x Q σ a w hf h
      · subst ht; exact ev_sound hτ y Q σ a w hf h
    · exact h.elim
  | .block id c, Q, σ, a, w, hf, h => by
    refine wp_block (wp_mono (ev_sound hτ c _ σ a w hf h) ?_)
    intro e a w hq
    cases e with
    | normal => exact hq
    | exit i =>
      obtain ⟨σ', hf', hq⟩ := hq
      simp only at hq
      unfold Exit.inBlock
      simp only
      split at hq
      · rename_i hb
        rw [if_pos (Nat.eq_of_beq_eq_true hb)]
        exact ⟨σ', hf', hq⟩
      · rename_i hb
        rw [if_neg (Nat.ne_of_beq_eq_false hb)]
        exact ⟨σ', hf', hq⟩
    | ret => exact hq
    | goto l => exact hq.elim
    | panic c => exact hq.elim
    | outgrown => exact hq.elim
  | .loop c, Q, σ, a, w, hf, h => by
    have h : LoopC P τ N c Q σ w := h
    exact h.go a hf
  | .exit i, Q, σ, a, w, hf, h => wp_exit ⟨σ, hf, h⟩
  | .ret, Q, σ, a, w, hf, h => wp_ret ⟨σ, hf, h⟩
  | .rangeFunc _ _ _ _, _, _, _, _, _, h => h.elim
  | .scope _, _, _, _, _, _, h => h.elim
  | .label _, _, _, _, _, _, h => h.elim
  | .goto _, _, _, _, _, _, h => h.elim
  | .refuse _, _, _, _, _, _, h => h.elim
end
end Go.Proofs.YtakdekkieobbaaaDoor.Ev

/-! ### The same evaluator by recursors, as the walks use it: what is left over of it under a binder is then the same term for Lean's elaborator and for its kernel -/
namespace Go.Proofs.YtakdekkieobbaaaDoor.Ev
open Go
section
variable (P : Program) (τ : Tab) (N : Nat)
def evStep (ops : List Oper) (o : Oper) (K : Slots → World → Prop) (σ : Slots) (w : World) : Prop :=
  guardK N ops o.guard σ
    (fun σ => match isPure o.op with
      | true => (match ifaces σ o.op with
        | some (bop, t, x, y) => IfEqC P bop t x y w fun v => put1 N o.dst v σ fun σ => K σ w
        | none => pureOp P τ σ o.op fun v => put1 N o.dst v σ fun σ => K σ w)
      | false => worldOp P τ σ o.op w fun v w => put1 N o.dst v σ fun σ => K σ w)
    (fun σ => put1 N o.dst undef σ fun σ => K σ w)
def evOpsR (ops : List Oper) (Q : Slots → World → Prop) (l : List Oper) : Slots → World → Prop :=
  List.rec (motive := fun _ => Slots → World → Prop) Q (fun o _ ih => evStep P τ N ops o ih) l
theorem evOpsR_eq (ops : List Oper) (Q : Slots → World → Prop) : ∀ l : List Oper, evOpsR P τ N ops Q l = fun σ w => evOps P τ N ops l Q σ w
  | [] => rfl
  | o :: r => by
    have ih := evOpsR_eq ops Q r
    show evStep P τ N ops o (evOpsR P τ N ops Q r) = _
    rw [ih]
    rfl

abbrev EQ := Exit → Slots → World → Prop
abbrev EV := EQ → Slots → World → Prop
def rSkip : EV := fun Q σ w => Q .normal σ w
def rNone : EV := fun _ _ _ => False
def rRegion (_ : Nat) (ops : Array Oper) (draw : Bool) : EV := fun Q σ w => match draw with
  | false => evOpsR P τ N ops.toList (Q .normal) ops.toList σ w
  | true => DrawC P τ N ops (Q .normal) σ w
def seqQ (K : EV) (Q : EQ) : EQ := fun e σ w => match e with
  | .normal => K Q σ w
  | e => Q e σ w
def rCond (c : Operand) (x y : EV) : EV := fun Q σ w => match ro σ c with
  | some (.bool b) => br b (x Q σ w) (y Q σ w)
  | _ => False
def blockQ (id : Nat) (Q : EQ) : EQ := fun e σ w => match e with
  | .exit i => (match Nat.beq i id with
    | true => Q .normal σ w
    | false => Q (.exit i) σ w)
  | e => Q e σ w
def evR (c : Code) : EV :=
  Code.rec (motive := fun _ => EV) rSkip (rRegion P τ N) (fun _ _ x y Q => x (seqQ y Q)) (fun c _ _ x y => rCond c x y) (fun id _ x Q => x (blockQ id Q)) (fun c _ Q σ w => LoopC P τ N c Q σ w)
    (fun _ _ _ _ _ _ => rNone) (fun i Q => Q (.exit i)) (fun _ _ => rNone) (fun _ => rNone) (fun _ => rNone) (fun Q => Q .ret) (fun _ => rNone) c
theorem evR_eq : ∀ c : Code, evR P τ N c = ev P τ N c
  | .skip => rfl
  | .region id ops false => by
    funext Q σ w
    show evOpsR P τ N ops.toList (Q .normal) ops.toList σ w = _
    rw [evOpsR_eq]
    rfl
  | .region id ops true => rfl
  | .seq x y => by
    funext Q σ w
    have e : seqQ (ev P τ N y) Q = (fun e σ w => match e with
      | .normal => ev P τ N y Q σ w
      | e => Q e σ w) := by funext e; cases e <;> rfl
    show evR P τ N x (seqQ (evR P τ N y) Q) σ w = _
    rw [evR_eq x, evR_eq y, e]
    rfl
  | .cond c x y => by
    show rCond c (evR P τ N x) (evR P τ N y) = _
    rw [evR_eq x, evR_eq y]
    funext Q σ w
    unfold rCond
    rfl
  | .block id c => by
    funext Q σ w
    have e : blockQ id Q = (fun e σ w => match e with
      | .exit i => (match Nat.beq i id with
        | true => Q .normal σ w
        | false => Q (.exit i) σ w)
      | e => Q e σ w) := by funext e; cases e <;> rfl
    show evR P τ N c (blockQ id Q) σ w = _
    rw [evR_eq c, e]
    rfl
  | .loop c => rfl
  | .exit i => rfl
  | .ret => rfl
  | .rangeFunc _ _ _ _ => rfl
  | .scope _ => rfl
  | .label _ => rfl
  | .goto _ => rfl
  | .refuse _ => rfl
end
end Go.Proofs.YtakdekkieobbaaaDoor.Ev
