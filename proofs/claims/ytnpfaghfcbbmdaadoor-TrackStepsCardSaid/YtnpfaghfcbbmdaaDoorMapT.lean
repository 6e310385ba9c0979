/-
  The map literal of package track: what it holds, whatever order it was filled in; its lookup.
-/
import Derived.Test.YtnpfaghfcbbmdaaDoorErr
import Derived.Test.YtnpfaghfcbbmdaaDoorEvH
import Derived.Laws.StructEq
import Derived.Laws.Tables
import Derived.Laws.Cover2
namespace Go.Proofs.YtnpfaghfcbbmdaaDoor
open Go Ev Go.Instr

theorem ck (e : Bool) (a b : Int) (w : World) : (checkKey e 10000 94 (.agg #[.int .i64 a, .int .i64 b])).run Tryd.prog w = .ok () w := by cases e <;> kernel_rfl

theorem run_int (d : Nat) (a b : Int) (w : World) : (Op.equalIn (d + 1) 3 (.int .i64 a) (.int .i64 b)).run Tryd.prog w = .ok (a == b) w := by
  have hu := Tryd.underlying3
  simp [Op.equalIn, underlying, hu]
theorem part_k (i : Nat) (a b : Int) (v : Value) (h : [Value.int .i64 a, Value.int .i64 b][i]? = some v) (w : World) : (part 3 #[.int .i64 a, .int .i64 b] i).run Tryd.prog w = .ok v w :=
  part_run1 (cs := [.int .i64 a, .int .i64 b]) ⟨_, Tryd.underlying3⟩ h (by kernel_rfl) w
theorem eqKey (a b c d : Int) (w : World) : (Op.equalIn 10000 94 (.agg #[.int .i64 a, .int .i64 b]) (.agg #[.int .i64 c, .int .i64 d])).run Tryd.prog w = .ok (a == c && b == d) w := by
  have hS : Tryd.prog.underlying 94 = some (.struct (Tryd.prog.fieldsOf 94)) := by kernel_rfl
  rw [show (10000 : Nat) = 9999 + 1 from rfl, run_equalIn_struct w 9999 94 _ _ hS (by kernel_rfl)]
  simp only [Program.fieldsOf, Tryd.underlying94]
  have p0 := part_k 0 a b (.int .i64 a) rfl
  have p1 := part_k 1 a b (.int .i64 b) rfl
  have q0 := part_k 0 c d (.int .i64 c) rfl
  have q1 := part_k 1 c d (.int .i64 d) rfl
  have r : ∀ x y w, (Op.equalIn 9999 3 (.int .i64 x) (.int .i64 y)).run Tryd.prog w = .ok (x == y) w := fun x y w => run_int 9998 x y w
  simp only [Op.eqFields, show ("proto" : String) ≠ "_" by decide, show ("state" : String) ≠ "_" by decide, ne_eq, not_false_eq_true, if_true, Sem.run_bind, p0, p1, q0, q1, Result.andThen_ok, r]
  cases h1 : a == c <;> cases h2 : b == d <;> simp [Sem.run_bind, p0, p1, q0, q1, r, h2]

/-- An entry, its key two numbers. -/
def kEnt (k : (Int × Int × Int) × Nat) : MapEntry := ⟨.agg #[.int .i64 k.1.1, .int .i64 k.1.2.1], .int .i64 k.1.2.2, k.2⟩
def kFind (p s : Int) : List ((Int × Int × Int) × Nat) → Nat → Option (Nat × Value)
  | [], _ => none
  | ((a, b, v), _) :: r, n => match p == a && s == b with | true => some (n, .int .i64 v) | false => kFind p s r (n + 1)
def kLook (p s : Int) : List ((Int × Int × Int) × Nat) → Int
  | [] => 0
  | ((a, b, v), _) :: r => if p = a ∧ s = b then v else kLook p s r
def kObj (l : List ((Int × Int × Int) × Nat)) (c : Nat) : Obj := .map (l.map kEnt).toArray c

theorem kFind_look (p s : Int) : ∀ (l : List ((Int × Int × Int) × Nat)) (n : Nat), kFind p s l n = none ∧ kLook p s l = 0 ∨ ∃ i, kFind p s l n = some (i, .int .i64 (kLook p s l))
  | [], n => .inl ⟨rfl, rfl⟩
  | ((a, b, v), c) :: r, n => by
    unfold kFind kLook
    cases h : p == a && s == b
    · rw [if_neg (by rintro ⟨rfl, rfl⟩; simp at h)]
      exact kFind_look p s r (n + 1)
    · rw [if_pos (by simpa using h)]
      exact .inr ⟨_, rfl⟩

theorem findAsking_k (p s : Int) (w : World) : ∀ (l : List ((Int × Int × Int) × Nat)) (n : Nat), (findAsking 94 (.agg #[.int .i64 p, .int .i64 s]) (l.map kEnt) n).run Tryd.prog w = .ok (kFind p s l n) w
  | [], n => rfl
  | ((a, b, v), c) :: r, n => by
    rw [List.map_cons, findAsking, Sem.run_bind]
    rw [show Op.equal 94 (.agg #[.int .i64 p, .int .i64 s]) (kEnt ((a, b, v), c)).key = Op.equalIn 10000 94 (.agg #[.int .i64 p, .int .i64 s]) (.agg #[.int .i64 a, .int .i64 b]) from rfl, eqKey, Result.andThen_ok]
    unfold kFind
    cases p == a && s == b
    · exact findAsking_k p s w r (n + 1)
    · rfl

theorem findKey_k (p s : Int) (w : World) (l : List ((Int × Int × Int) × Nat)) : (findKey 94 (.agg #[.int .i64 p, .int .i64 s]) (l.map kEnt)).run Tryd.prog w = .ok (kFind p s l 0) w := by
  have hu := Tryd.underlying94
  have h0 : (findKey 94 (.agg #[.int .i64 p, .int .i64 s]) (l.map kEnt)) = (do match findNow (← underlying 94) (.agg #[.int .i64 p, .int .i64 s]) (l.map kEnt) 0 with | some r => pure r | none => findAsking 94 (.agg #[.int .i64 p, .int .i64 s]) (l.map kEnt)) := rfl
  rw [h0, Sem.run_bind, run_underlying hu, Result.andThen_ok]
  cases l with
  | nil => rfl
  | cons x r =>
    obtain ⟨⟨a, b, v⟩, c⟩ := x
    exact findAsking_k p s w (((a, b, v), c) :: r) 0

theorem mapLook {r : Nat} {w : World} {l : List ((Int × Int × Int) × Nat)} {clock : Nat} (p s : Int) (hb : w.heap[r]? = some (kObj l clock)) :
    (Instr.lookup 91 (.map (some r)) (.agg #[.int .i64 p, .int .i64 s]) false).run Tryd.prog w = .ok (.int .i64 (kLook p s l)) w := by
  have hm := Tryd.underlying91
  have hg : (getObj r).run Tryd.prog w = .ok (kObj l clock) w := by simp [getObj, Sem.run, hb, kObj]
  have hz : (zeroValue 3).run Tryd.prog w = .ok (.int .i64 0) w := by kernel_rfl
  have hk := findKey_k p s w l
  unfold kObj at hg
  simp only [Instr.lookup, Sem.run_bind, run_underlying hm, Result.andThen_ok, hg, Sem.run_pure, ck, hk]
  rcases kFind_look p s l 0 with ⟨h1, h2⟩ | ⟨i, h1⟩
  · simp [h1, h2, hz, Sem.run_bind]
  · simp [h1]

/-- A map whose key is not there is given one. -/
theorem mapIns {r : Nat} {w : World} {l : List ((Int × Int × Int) × Nat)} {clock : Nat} (a b v : Int) (hb : w.heap[r]? = some (kObj l clock)) (hn : kFind a b l 0 = none) :
    (Instr.mapUpdate 91 (.map (some r)) (.agg #[.int .i64 a, .int .i64 b]) (.int .i64 v)).run Tryd.prog w = .ok () { w with heap := w.heap.setIfInBounds r (kObj (l ++ [((a, b, v), clock)]) (clock + 1)) } := by
  have hg : (getObj r).run Tryd.prog w = .ok (kObj l clock) w := by simp [getObj, Sem.run, hb, kObj]
  have hm := Tryd.underlying91
  unfold kObj at hg
  have hk := findKey_k a b w l
  rw [hn] at hk
  simp only [Instr.mapUpdate, Sem.run_bind, run_underlying hm, Result.andThen_ok, hg, ck, hk]
  simp [setObj, Sem.run, hb, kObj, kEnt]

def kmap (r : Nat) (l : List ((Int × Int × Int) × Nat)) (c : Nat) : Ent := ⟨[r], fun w => w.heap[r]? = some (kObj l c)⟩
theorem kmap_local (r : Nat) (l : List ((Int × Int × Int) × Nat)) (c : Nat) : (kmap r l c).Local := fun w w' h hb => by
  have := h r (by simp [kmap])
  simpa [kmap, this] using hb

theorem Ev.St.mkMap {w0 w : World} {H : List Ent} {k : Value → World → Prop} (h : St w0 No w H) (hk : ∀ r w', w0.heap.size ≤ r → St w0 No w' (H ++ [kmap r [] 0]) → k (.map (some r)) w') : RunC Tryd.prog (Instr.makeMap 91 none) w k := by
  refine ⟨.map (some w.heap.size), { w with heap := w.heap.push (.map #[] 0) }, rfl, hk _ _ h.ext.size (h.made ⟨rfl, rfl, rfl, by simp, fun i hi _ => ?_⟩ (kmap_local _ _ _) ?_ ?_)⟩
  · show (w.heap.push _)[i]? = _
    rw [Array.getElem?_push, if_neg (by omega)]
  · show (w.heap.push _)[w.heap.size]? = _
    rw [Array.getElem?_push, if_pos rfl]
    rfl
  · intro b hb
    obtain rfl : b = w.heap.size := by simpa [kmap] using hb
    simp
theorem Ev.St.ins {w0 w : World} {H : List Ent} (h : St w0 No w H) (i : Nat) {r : Nat} {l : List ((Int × Int × Int) × Nat)} {c : Nat} {a b v : Int} {k : World → Prop} (hi : H[i]? = some (kmap r l c)) (hn : kFind a b l 0 = none)
    (hk : ∀ w', Ext (· = r) w w' → St w0 No w' (H.set i (kmap r (l ++ [((a, b, v), c)]) (c + 1))) → k w') : RunU Tryd.prog (Instr.mapUpdate 91 (.map (some r)) (.agg #[.int .i64 a, .int .i64 b]) (.int .i64 v)) w k := by
  have hb : w.heap[r]? = some (kObj l c) := h.get i hi
  have hx : Ext (· = r) w { w with heap := w.heap.setIfInBounds r (kObj (l ++ [((a, b, v), c)]) (c + 1)) } := ⟨rfl, rfl, rfl, by simp, fun j hj hs => by
    have : r ≠ j := fun e => hs e.symm
    simp [this]⟩
  refine ⟨_, mapIns a b v hb hn, hk _ hx (h.upd i hi hx (fun d hd => by simp [kmap, hd]) (kmap_local _ _ _) ?_ fun d hd => .inl hd)⟩
  have := (Array.getElem?_eq_some_iff.1 hb).1
  show (w.heap.setIfInBounds r _)[r]? = _
  simp [this]

def timeS (p s : Int) : Int := if p = 1 then 60 else if p ≠ 2 then 0 else if s = 1 then 10 else if s = 2 then 100 else if s = 3 then 5 else 0
end Go.Proofs.YtnpfaghfcbbmdaaDoor
