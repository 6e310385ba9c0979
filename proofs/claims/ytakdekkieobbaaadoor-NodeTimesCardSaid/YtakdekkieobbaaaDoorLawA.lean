
/-
  From a call's contract 'true is returned, and nothing that was there has turned' to a law's row; and what an argument that can be read tells the evaluator.
-/
import Derived.Test.YtakdekkieobbaaaDoorEvG
import Derived.ProofKit
import Derived.Below
import Derived.Carry
import Derived.Deep.Slices
import Derived.LaidLaws
import Derived.LaidHandle
import Derived.Stop.LaidErr
import Derived.Stop.Joined
import Derived.OpenShut
import Derived.ShutString
namespace Go.Proofs.YtakdekkieobbaaaDoor.Ev
open Go Go.ChangeShapes Go.WideShapes Go.ChangeAt Go.RowKit

/-! ### What can be read -/
/-- The cells 'cs' are a well-formed variable of type t (so deep as d). -/
def Shp (P : Program) (w : World) : Nat → TypeId → List Value → Prop
  | 0, _, _ => True
  | d + 1, t, cs => match P.underlying t with
    | some .bool => ∃ b, cs = [.bool b]
    | some (.int k) => ∃ n, cs = [.int k n] ∧ (Lit.int k n).wf = true
    | some .string => ∃ s : ByteArray, cs = [.string s] ∧ s.size ≤ maxLen
    | some (.slice e) => cs = [.slice none 0 0] ∨ ∃ a n c, cs = [.slice (some a) n c] ∧ n ≤ c ∧ c ≤ maxLen ∧
        ∀ i, i < n → ∃ l : List Value, l.length = P.cellsOf e ∧ (∀ j v, l[j]? = some v → w.cell? ((a.add (i * P.cellsOf e)).add j) = some v) ∧ Shp P w d e l
    | some (.struct fs) => cs.length = P.cellsOf t ∧ ∀ (i : Nat) (f : Field), fs[i]? = some f → Shp P w d f.type ((cs.drop f.offset).take (P.cellsOf f.type))
    | _ => True

theorem trod_shp {H : Type} {enc : TypeId × Value → H} {P : Program} {w : World} {sp : Nat → Bool} {held : Bool} : ∀ (d : Nat) (fuel : Nat) (t : TypeId) (cs : List Value) (x : DataW H × List MemPlace), DataW.trod enc P w 0 sp held fuel t cs = some x → Shp P w d t cs
  | 0, _, _, _, _, _ => trivial
  | d + 1, fuel, t, cs, x, h => by
    unfold Shp
    split
    · rename_i hu
      obtain ⟨b, hb, _⟩ := DataW.trod_bool hu h
      exact ⟨b, hb⟩
    · rename_i hu
      obtain ⟨n, hn, _, hw⟩ := DataW.trod_int hu h
      exact ⟨n, hn, hw⟩
    · rename_i hu
      obtain ⟨s, hs, _, hw⟩ := DataW.trod_string hu h
      exact ⟨s, hs, hw⟩
    · rename_i e hu
      rcases Go.Deep.open_slice hu h with ⟨hcs, _⟩ | ⟨a, len, cap, m, n, D, Pl, hcs, _, hl, hm, hmm, _, hi⟩
      · exact .inl hcs
      · refine .inr ⟨a, len, cap, hcs, hl, hm, fun i hilt => ?_⟩
        obtain ⟨cs', hc, ht⟩ := hi i (by rw [hmm]; split <;> omega)
        obtain ⟨_, hlen, hat⟩ := World.cells?_some hc
        refine ⟨cs', hlen, fun j v hj => ?_, trod_shp d _ _ _ _ ht⟩
        rw [hat j (by have := (List.getElem?_eq_some_iff.1 hj).1; omega)]
        exact hj
    · rename_i fs hu
      obtain ⟨xs, n, _, _, hlen, hxl, hf⟩ := DataW.trod_struct hu h
      refine ⟨hlen, fun i f hi => ?_⟩
      have h1 := hf i f hi
      have hil : i < xs.length := by rw [hxl]; exact (Array.getElem?_eq_some_iff.1 hi).1
      rw [List.getElem?_eq_getElem hil] at h1
      exact trod_shp d _ _ _ _ h1
    · trivial

/-- A slice value whose elements are the encodings of xs; each element meets G. -/
structure Slc {α : Type} (w : World) (sz : Nat) (enc : α → List Value) (G : α → Prop) (a : Option Addr) (n : Nat) (xs : List α) : Prop where
  len : xs.length = n
  max : n ≤ 9223372036854775807
  cells : ∀ k x, xs[k]? = some x → ∃ b o, a = some ⟨b, o, none⟩ ∧ b < w.heap.size ∧ CellsAt w b (o + k * sz) (enc x)
  good : ∀ x ∈ xs, G x

def Dec {α : Type} (P : Program) (w : World) (d : Nat) (t : TypeId) (enc : α → List Value) (G : α → Prop) : Prop := ∀ cs, Shp P w d t cs → ∃ x, cs = enc x ∧ G x

theorem list_of {α : Type} {p : Nat → α → Prop} : ∀ n, (∀ i, i < n → ∃ x, p i x) → ∃ xs : List α, xs.length = n ∧ ∀ i x, xs[i]? = some x → p i x
  | 0, _ => ⟨[], rfl, by simp⟩
  | n + 1, h => by
    obtain ⟨xs, hl, hx⟩ := list_of n fun i hi => h i (by omega)
    obtain ⟨y, hy⟩ := h n (by omega)
    refine ⟨xs ++ [y], by simp [hl], fun i x hi => ?_⟩
    rw [List.getElem?_append] at hi
    split at hi
    · exact hx i x hi
    · rename_i hge
      have : i = n := by
        have := (List.getElem?_eq_some_iff.1 hi).1
        simp at this
        omega
      subst this
      simp [hl] at hi
      subst hi
      exact hy

theorem addr_add_add (a : Addr) (h : a.spot = none) (i j : Nat) : (a.add i).add j = ⟨a.block, a.off + i + j, none⟩ := by
  obtain ⟨b, o, s⟩ := a
  simp only at h
  subst h
  rw [add_none, add_none]

theorem slc_of {α : Type} {P : Program} {w : World} {d : Nat} {t e : TypeId} {sz : Nat} {enc : α → List Value} {G : α → Prop} (hu : P.underlying t = some (.slice e)) (hc : P.cellsOf e = sz) (hsz : 0 < sz) (hd : Dec P w d e enc G)
    {a : Option Addr} {n c : Nat} (h : Shp P w (d + 1) t [.slice a n c]) : ∃ xs, Slc w sz enc G a n xs ∧ n ≤ c := by
  unfold Shp at h
  rw [hu] at h
  simp only at h
  rcases h with h | ⟨a', n', c', h, hnc, hm, hi⟩
  · simp only [List.cons.injEq, Value.slice.injEq, and_true] at h
    obtain ⟨rfl, rfl, rfl⟩ := h
    exact ⟨[], ⟨rfl, by omega, by simp, by simp⟩, Nat.le_refl _⟩
  · simp only [List.cons.injEq, Value.slice.injEq, and_true] at h
    obtain ⟨rfl, rfl, rfl⟩ := h
    have key : ∀ i, i < n → ∃ x, (∃ b o, some a' = some ⟨b, o, none⟩ ∧ b < w.heap.size ∧ CellsAt w b (o + i * sz) (enc x)) ∧ G x := by
      intro i hil
      obtain ⟨l, hl, hcell, hs⟩ := hi i hil
      obtain ⟨x, rfl, hg⟩ := hd l hs
      rw [hc] at hl hcell
      have h0 : ∃ v, (enc x)[0]? = some v := ⟨_, List.getElem?_eq_getElem (by omega)⟩
      obtain ⟨v, hv⟩ := h0
      have hc0 := hcell 0 v hv
      have hspot : a'.spot = none := by
        obtain ⟨l0, hl0, hcell0, _⟩ := hi 0 (by omega)
        rw [hc] at hl0
        have h1 := World.cell?_spot (hcell0 0 _ (List.getElem?_eq_getElem (by omega)))
        simpa [Addr.add] using h1
      refine ⟨x, ⟨a'.block, a'.off, ?_, ?_, fun j u hj => ?_⟩, hg⟩
      · obtain ⟨b, o, s⟩ := a'; simp only at hspot; subst hspot; rfl
      · have := cell_lt hc0
        rw [addr_add_add _ hspot] at this
        exact this
      · have := hcell j u hj
        rwa [addr_add_add _ hspot] at this
    obtain ⟨xs, hl, hx⟩ := list_of n key
    refine ⟨xs, ⟨hl, by unfold maxLen at hm; omega, fun k x hk => (hx k x hk).1, fun x hx' => ?_⟩, hnc⟩
    obtain ⟨k, hk⟩ := List.mem_iff_getElem?.1 hx'
    exact (hx k x hk).2

theorem dec_int {P : Program} {w : World} {d : Nat} {t : TypeId} (hu : P.underlying t = some (.int .i64)) : Dec P w (d + 1) t (fun x : Int => [.int .i64 x]) (fun x => -9223372036854775808 ≤ x ∧ x ≤ 9223372036854775807) := by
  intro cs h
  unfold Shp at h
  rw [hu] at h
  obtain ⟨n, rfl, hw⟩ := h
  refine ⟨n, rfl, ?_⟩
  have h1 : IntKind.i64.min = -9223372036854775808 := rfl
  have h2 : IntKind.i64.max = 9223372036854775807 := rfl
  simp only [Lit.wf, Bool.and_eq_true, decide_eq_true_eq] at hw
  omega
theorem dec_bool {P : Program} {w : World} {d : Nat} {t : TypeId} (hu : P.underlying t = some .bool) : Dec P w (d + 1) t (fun x : Bool => [.bool x]) (fun _ => True) := by
  intro cs h
  unfold Shp at h
  rw [hu] at h
  obtain ⟨n, rfl⟩ := h
  exact ⟨n, rfl, trivial⟩
theorem Slc.mono {α : Type} {w : World} {sz : Nat} {enc : α → List Value} {G G' : α → Prop} {a : Option Addr} {n : Nat} {xs : List α} (h : Slc w sz enc G a n xs) (hg : ∀ x, G x → G' x) : Slc w sz enc G' a n xs := ⟨h.len, h.max, h.cells, fun x hx => hg x (h.good x hx)⟩

/-! ### The row -/
theorem trodAll_ext {H : Type} {enc : TypeId × Value → H} {P : Program} (hl : laidOutB P = true) {W W' : World} (hb : Below W.heap.size W W') : ∀ (ts : List TypeId) (vs : List Value) (ds : List (DataW H)) (ps : List MemPlace),
    (ts.all fun t => P.readableRec t && decide (t < P.types.size)) = true → DataW.TrodAll enc P W 0 (fun _ => true) true ts vs ds ps → (∀ x ∈ ps, x.block < W.heap.size) → DataW.TrodAll enc P W' 0 (fun b => decide (b < W.heap.size)) true ts vs ds ps
  | [], vs, ds, ps, _, h, _ => by
    cases vs <;> cases ds <;> simp_all [DataW.TrodAll]
  | t :: ts, vs, ds, ps, hr, h, hlt => by
    obtain ⟨v, vs', d, ds', p, q, rfl, rfl, rfl, h1, h2⟩ := trodAll_cons h
    simp only [List.all_cons, Bool.and_eq_true, decide_eq_true_eq] at hr
    exact ⟨p, q, Below.trod hl hr.1.1 hr.1.2 h1 hb (fun x hx => hlt x (List.mem_append_left _ hx)), trodAll_ext hl hb ts vs' ds' q hr.2 h2 (fun x hx => hlt x (List.mem_append_right _ hx)), rfl⟩

theorem Ext.below {w w' : World} (h : Ext No w w') : Below w.heap.size w w' := ⟨h.os, h.tape, h.output, h.size, fun k hk => h.block k hk fun h => h⟩

/-- What the walk of a law is told of its arguments: each is a well-formed value of its type. -/
def ArgOk (P : Program) (W : World) (t : TypeId) (v : Value) : Prop := (∃ base, Value.okWide P W .any base t v) ∧ ∀ d, Shp P W d t v.cells.toList

/-- A slice argument. -/
theorem arg_slice {α : Type} {P : Program} {W : World} {t e : TypeId} {v : Value} {d sz : Nat} {enc : α → List Value} {G : α → Prop} (hu : P.underlying t = some (.slice e)) (hc : P.cellsOf e = sz) (hsz : 0 < sz) (hd : Dec P W d e enc G) (h : ArgOk P W t v) :
    ∃ a n c xs, v = .slice a n c ∧ Slc W sz enc G a n xs ∧ n ≤ c := by
  obtain ⟨⟨base, h1⟩, h2⟩ := h
  obtain ⟨a, n, c, rfl⟩ := okWide_slice hu h1
  obtain ⟨xs, hx, hn⟩ := slc_of (n := n) (c := c) hu hc hsz hd (h2 (d + 1))
  exact ⟨a, n, c, xs, rfl, hx, hn⟩
theorem arg_int {P : Program} {W : World} {t : TypeId} {v : Value} (hu : P.underlying t = some (.int .i64)) (h : ArgOk P W t v) : ∃ x : Int, v = .int .i64 x ∧ -9223372036854775808 ≤ x ∧ x ≤ 9223372036854775807 := by
  obtain ⟨⟨base, h1⟩, h2⟩ := h
  obtain ⟨n, rfl⟩ := okWide_int hu h1
  obtain ⟨x, hx, hg⟩ := dec_int (d := 0) hu _ (h2 1)
  simp [Value.cells] at hx
  subst hx
  exact ⟨n, rfl, hg⟩
theorem arg_bool {P : Program} {W : World} {t : TypeId} {v : Value} (hu : P.underlying t = some .bool) (h : ArgOk P W t v) : ∃ x : Bool, v = .bool x := by
  obtain ⟨⟨base, h1⟩, h2⟩ := h
  obtain ⟨n, rfl⟩ := okWide_bool hu h1
  exact ⟨n, rfl⟩

def ArgsOk (P : Program) (W : World) : List TypeId → List Value → Prop
  | [], [] => True
  | t :: ts, v :: vs => ArgOk P W t v ∧ ArgsOk P W ts vs
  | _, _ => False

theorem ArgsOk.cons {P : Program} {W : World} {t : TypeId} {ts : List TypeId} {vs : List Value} (h : ArgsOk P W (t :: ts) vs) : ∃ v vs', vs = v :: vs' ∧ ArgOk P W t v ∧ ArgsOk P W ts vs' := by
  cases vs with
  | nil => exact h.elim
  | cons v vs => exact ⟨v, vs, rfl, h.1, h.2⟩
theorem ArgsOk.nil {P : Program} {W : World} {vs : List Value} (h : ArgsOk P W [] vs) : vs = [] := by
  cases vs with
  | nil => rfl
  | cons v vs => exact h.elim

theorem argsOk_of {H : Type} {enc : TypeId × Value → H} {P : Program} {W : World} {base : Nat} {sp : Nat → Bool} {held : Bool} : ∀ (ts : List TypeId) (vs : List Value) (ds : List (DataW H)) (ps : List MemPlace),
    (∀ (j : Nat) t v, ts[j]? = some t → vs[j]? = some v → Value.okWide P W .any base t v) → DataW.TrodAll enc P W 0 sp held ts vs ds ps → ArgsOk P W ts vs
  | [], vs, ds, ps, _, h => by
    cases vs <;> cases ds <;> simp_all [DataW.TrodAll, ArgsOk]
  | t :: ts, vs, ds, ps, hv, h => by
    obtain ⟨v, vs', d, ds', p, q, rfl, rfl, rfl, h1, h2⟩ := trodAll_cons h
    obtain ⟨fuel, hf⟩ := h1
    exact ⟨⟨⟨base, hv 0 t v rfl rfl⟩, fun d => trod_shp d _ _ _ _ hf⟩, argsOk_of ts vs' ds' q (fun j t' v' ht hv' => hv (j + 1) t' v' ht hv') h2⟩

theorem law_lifted {C : Checked} {f : FuncId} {fn : Func} {s : ChangeSpec} {tb : TypeId} (L : List (String × DataW Unit)) (os : Os) (started : os.Started) (H : Type) (enc : TypeId × Value → H)
    (own : ownKnob C.prog.godebug = none) (hbody : fn.body.isNone = false) (noInit : C.prog.inits.idxOf? f = none) (hfn : C.prog.funcs[f]? = some fn) (hvars : s.vars = [])
    (hs : ∀ ds : List (DataW H), ds.length = fn.params.toList.length → (s.fn H (ds ++ [])).results = [.lit (.bool true)] ∧ (s.fn H (ds ++ [])).args = ds ∧ (s.fn H (ds ++ [])).vars = [])
    (hres : fn.resultTypes = #[tb]) (hbool : C.prog.underlying tb = some .bool) (hlaid : laidOutB C.prog = true) (hread : (fn.params.toList.all fun t => C.prog.readableRec t && decide (t < C.prog.types.size)) = true)
    (witness : ∃ (w : World) (tape : Tape) (i : Input), w.os = os ∧ (w.forCall tape i).Shaped C.prog ∧ i.vars = [] ∧ Input.okWide C.prog (w.forCall tape i) .any w.heap.size f i ∧
      ((s.pre enc C.prog fn [] false (w.forCall tape i).memory i.args ∧ laidMetH C.prog L (w.forCall tape i).memory) ∧ sizedMet enc C.prog fn (OpenSpec.ofChange s) false (w.forCall tape i).memory i.args) ∧ ({} : Assume).holds C.prog (lone (Frame.enter C.prog f i.args .normal) [] (w.forCall tape i)))
    (walk : ∀ (W : World) (args : List Value), ArgsOk C.prog W fn.params.toList args → laidMetH C.prog L W → CallC C.prog f args.toArray W fun v w' => v = .bool true ∧ Ext No W w') :
    ReturnsInHanded {} C os f .any (fun w args => (s.pre enc C.prog fn [] false w args ∧ laidMetH C.prog L w) ∧ sizedMet enc C.prog fn (OpenSpec.ofChange s) false w args) (s.post enc C.prog fn false true false false) := by
  refine returnsInHanded_of_change_and (C := C) (X := fun w _ => laidMetH C.prog L w) (fun _ _ _ hh h => h.of_heap hh) own started noInit hfn witness ?_
  intro W base args ds gs before hval hW _ _ hL _
  have hW' := hW
  obtain ⟨p, q, hA, hV, rfl, hfz, hnd⟩ := hW
  rw [hvars] at hV
  obtain ⟨rfl, rfl⟩ := trodVars_none hV
  have hok := argsOk_of fn.params.toList args.toList ds p (fun j t v ht hv => hval j t v (by simpa using ht) (by simpa using hv)) hA
  have hlen : ds.length = fn.params.toList.length := by
    have : ∀ (ts : List TypeId) (vs : List Value) (ds : List (DataW H)) (ps : List MemPlace), DataW.TrodAll enc C.prog W 0 (fun _ => true) true ts vs ds ps → ds.length = ts.length := by
      intro ts
      induction ts with
      | nil => intro vs ds ps h; cases vs <;> cases ds <;> simp_all [DataW.TrodAll]
      | cons t ts ih =>
        intro vs ds ps h
        obtain ⟨v, vs', d, ds', p, q, rfl, rfl, rfl, h1, h2⟩ := trodAll_cons h
        simp [ih _ _ _ h2]
    exact this _ _ _ _ hA
  have hc := (walk W args.toList hok hL).calls hfn hbody
  rw [Array.toArray_toList] at hc
  refine hc.mono fun e W' ⟨v, he, hv, hext⟩ => ?_
  subst he hv
  obtain ⟨e1, e2, e3⟩ := hs ds hlen
  have hlt : ∀ x ∈ p, x.block < W.heap.size := fun x hx => hW'.lt x (by simpa using hx)
  refine ⟨_, rfl, ds, [], p ++ [], [], p, [], hW', ?_, ?_, ?_, hext.below.frame _, fun h => by cases h⟩
  · rw [e1, hres]
    exact trodAll_mk1 (shut_bool hbool true)
  · rw [e2]
    exact trodAll_ext hlaid hext.below _ _ _ _ hread hA hlt
  · rw [hvars, e3]
    rfl
end Go.Proofs.YtakdekkieobbaaaDoor.Ev
