/-
  Texts of this claim, joined: EvG, LawA, Err, EvI, EvJ, EvK, EvH, EvM, EvO, EvL, Packet, Policy, EvN, EvP, PolicyB, Number, EvQ, Sum, RefNum, Byt, PolicyS, Code, As, Fault.
-/
import Derived.Test.YtcioicoedmmkhaaGreatDoorPacketCodesA
import Derived.Maps.AppendAt
import Derived.Great.BuildSlice
import Derived.ProofKit
import Derived.Below
import Derived.Carry
import Derived.Deep.Slices
import Derived.LaidLaws
import Derived.LaidHandle
import Derived.Stop.LaidErr
import Derived.Stop.Joined
import Derived.OpenShut
import Derived.ShutString
import Derived.LaidSub
import Derived.Stop.LaidTwo
import Derived.Laws.StructEq
import Derived.Laws.Tables
import Derived.Deep.Upon
import Derived.Laws.Strings
import Derived.Laws.Strings2
import Derived.Laws.Strings3
import Derived.Laws.Concat
import Derived.Laws.BytesArg
import Derived.Laws.BitsAllLaws
import Derived.Laws.OwnMore
import Derived.Lib.AppendZerosOnto
import Derived.Laws.Slices
import Derived.Laws.Externs
import Derived.LaidEql
import Derived.Stop.Asserts

namespace Go.Proofs.YtcioicoedmmkhaaGreatDoor.Ev
open Go

section
variable {P : Program} {w0 w w' : World} {S T : Nat → Prop} {H : List Ent}

theorem St.keep (h : St w0 S w H) (n : Nat) : St w0 S w (H.take n) := h.weaken (List.take_sublist n H)

theorem Ext.of_grown {row : Option Nat} (h : w.grownBy w' row) : Ext (fun b => row = some b) w w' := ⟨h.os, h.tape, h.output, h.size, fun k hk hs => h.block k hk fun e => hs e.symm⟩

def own (e : TypeId) (size : Nat) (v : Value) (n : Nat) (xs : List Value) : Ent := ⟨v.ownBlock.toList, fun w => w.ownsRow 0 e size v n xs⟩
theorem own_local (e : TypeId) (size : Nat) (v : Value) (n : Nat) (xs : List Value) : (own e size v n xs).Local := by
  intro w w' h hh
  obtain ⟨h1, h2 | ⟨g, cap, cur, rfl, h3, h4, h5⟩⟩ := hh
  · exact ⟨h1, .inl h2⟩
  · exact ⟨h1, .inr ⟨g, cap, cur, rfl, h3, (h g (by simp [own, Value.ownBlock])).trans h4, h5⟩⟩
theorem own_nil (e : TypeId) (size : Nat) (w : World) : (own e size (.slice none 0 0) 0 []).holds w := ⟨by simp, .inl ⟨rfl, rfl⟩⟩

theorem alloc_eq (w : World) (e : TypeId) (cs : List Value) : w.alloc (.cells cs.toArray e) = pushBlk w e cs := rfl

def fillK (sz : Nat) : List Value → List (Nat × Value) → Option (List Value)
  | z, [] => some z
  | z, (i, v) :: r => match Nat.beq (cellsL v).length sz, Nat.ble (i * sz + sz) z.length with
    | true, true => fillK sz (over z (i * sz) (cellsL v)) r
    | _, _ => none
theorem fill_of {sz : Nat} : ∀ (parts : List (Nat × Value)) (z cs : List Value), fillK sz z parts = some cs → Instr.fill (fun i => some (i * sz, sz)) z.toArray parts = some cs.toArray
  | [], z, cs, h => by
    simp only [fillK, Option.some.injEq] at h
    subst h
    rfl
  | (i, v) :: r, z, cs, h => by
    unfold fillK at h
    split at h
    · rename_i h1 h2
      have hsz := Nat.eq_of_beq_eq_true h1
      have hle := Nat.le_of_ble_eq_true h2
      have ih := fill_of r _ cs h
      have e1 : v.cells.size = sz := by rw [← hsz, cellsL_eq]; simp
      have e3 : v.cells.zipIdx.foldl (fun (cs : Array Value) (x : Value × Nat) => cs.setIfInBounds (i * sz + x.2) x.1) z.toArray = (over z (i * sz) (cellsL v)).toArray := by
        have := over_set (cellsL v) z (i * sz) 0 (by omega)
        rw [← Array.foldl_toList]
        simpa [cellsL_eq] using this
      unfold Instr.fill
      simp only []
      rw [if_neg (by simp only [List.size_toArray]; rw [e1]; simp; omega), ← ih]
      congr 1
    · cases h
def zerosL (z : Value) (n : Nat) : List Value := (List.range n).map fun i => (cellsL z)[i % (cellsL z).length]!
theorem zeros_eq (z : Value) (n : Nat) : (Array.range n).map (z.cells[· % z.cells.size]!) = (zerosL z n).toArray := by
  apply Array.ext'
  simp [zerosL, cellsL_eq]
  intro k _
  rw [getElem!_def]
  cases z.cells[k % z.cells.size]? <;> rfl

theorem St.lit (h : St w0 S w H) {t e : TypeId} {len sz : Nat} {z : Value} {parts : Array (Nat × Value)} {cs : List Value} {k : Value → World → Prop}
    (hu : P.underlying t = some (.slice e)) (hs : (P.info? e).map (·.size) = some sz) (hz : (P.info? e).bind (·.zero) = some z) (hsmall : Nat.ble (len * sz) (2 ^ 24) = true) (hpos : Nat.beq (len * sz) 0 = false)
    (hf : fillK sz (zerosL z (len * sz)) parts.toList = some cs)
    (hk : ∀ b w', w0.heap.size ≤ b → St w0 S w' (H ++ [Ev.blk b e cs]) → k (.slice (some ⟨b, 0, none⟩) len len) w') : RunC P (Instr.buildSlice t len parts) w k := by
  obtain ⟨ie, h1, h2⟩ := Option.map_eq_some_iff.1 hs
  obtain ⟨ie', h3, h4⟩ := Option.bind_eq_some_iff.1 hz
  obtain rfl := Option.some.inj (h1.symm.trans h3)
  subst h2
  refine ⟨_, _, run_buildSlice w t e len parts cs.toArray ie z hu h1 h4 (by have := Nat.le_of_ble_eq_true hsmall; omega) (Nat.ne_of_beq_eq_false hpos) (by rw [zeros_eq]; exact fill_of _ _ _ hf), ?_⟩
  rw [alloc_eq]
  refine hk _ _ h.ext.size (h.made (Ext.push _ _ _ _) (blk_local _ _ _) (show (w.heap.push _)[w.heap.size]? = _ by rw [Array.getElem?_push, if_pos rfl]) ?_)
  intro b hb
  obtain rfl : b = w.heap.size := by simpa [Ev.blk] using hb
  simp [pushBlk]

end
end Go.Proofs.YtcioicoedmmkhaaGreatDoor.Ev

namespace Go.Proofs.YtcioicoedmmkhaaGreatDoor.Ev
open Go Go.ChangeShapes Go.WideShapes Go.ChangeAt Go.RowKit

def Shp (P : Program) (w : World) : Nat → TypeId → List Value → Prop
  | 0, _, _ => True
  | d + 1, t, cs => match P.underlying t with
    | some .bool => ∃ b, cs = [.bool b]
    | some (.int k) => ∃ n, cs = [.int k n] ∧ (Lit.int k n).wf = true
    | some .string => ∃ s : ByteArray, cs = [.string s] ∧ s.size ≤ maxLen
    | some (.slice e) => cs = [.slice none 0 0] ∨ ∃ a n c, cs = [.slice (some a) n c] ∧ n ≤ c ∧ c ≤ maxLen ∧
        ∀ i, i < n → ∃ l : List Value, l.length = P.cellsOf e ∧ (∀ j v, l[j]? = some v → w.cell? ((a.add (i * P.cellsOf e)).add j) = some v) ∧ Shp P w d e l
    | some (.struct fs) => cs.length = P.cellsOf t ∧ ∀ (i : Nat) (f : Field), fs[i]? = some f → Shp P w d f.type ((cs.drop f.offset).take (P.cellsOf f.type))
    | _ => True

theorem trod_shp {H : Type} {enc : TypeId × Value → H} {P : Program} {w : World} {sp : Nat → Bool} {held : Bool} : ∀ (d : Nat) (fuel : Nat) (t : TypeId) (cs : List Value) (x : DataW H × List MemPlace), DataW.trod enc P w 0 sp held fuel t cs = some x → Shp P w d t cs
  | 0, _, _, _, _, _ => trivial
  | d + 1, fuel, t, cs, x, h => by
    unfold Shp
    split
    · rename_i hu
      obtain ⟨b, hb, _⟩ := DataW.trod_bool hu h
      exact ⟨b, hb⟩
    · rename_i hu
      obtain ⟨n, hn, _, hw⟩ := DataW.trod_int hu h
      exact ⟨n, hn, hw⟩
    · rename_i hu
      obtain ⟨s, hs, _, hw⟩ := DataW.trod_string hu h
      exact ⟨s, hs, hw⟩
    · rename_i e hu
      rcases Go.Deep.open_slice hu h with ⟨hcs, _⟩ | ⟨a, len, cap, m, n, D, Pl, hcs, _, hl, hm, hmm, _, hi⟩
      · exact .inl hcs
      · refine .inr ⟨a, len, cap, hcs, hl, hm, fun i hilt => ?_⟩
        obtain ⟨cs', hc, ht⟩ := hi i (by rw [hmm]; split <;> omega)
        obtain ⟨_, hlen, hat⟩ := World.cells?_some hc
        refine ⟨cs', hlen, fun j v hj => ?_, trod_shp d _ _ _ _ ht⟩
        rw [hat j (by have := (List.getElem?_eq_some_iff.1 hj).1; omega)]
        exact hj
    · rename_i fs hu
      obtain ⟨xs, n, _, _, hlen, hxl, hf⟩ := DataW.trod_struct hu h
      refine ⟨hlen, fun i f hi => ?_⟩
      have h1 := hf i f hi
      have hil : i < xs.length := by rw [hxl]; exact (Array.getElem?_eq_some_iff.1 hi).1
      rw [List.getElem?_eq_getElem hil] at h1
      exact trod_shp d _ _ _ _ h1
    · trivial

structure Slc {α : Type} (w : World) (sz : Nat) (enc : α → List Value) (G : α → Prop) (a : Option Addr) (n : Nat) (xs : List α) : Prop where
  len : xs.length = n
  max : n ≤ 9223372036854775807
  cells : ∀ k x, xs[k]? = some x → ∃ b o, a = some ⟨b, o, none⟩ ∧ b < w.heap.size ∧ CellsAt w b (o + k * sz) (enc x)
  good : ∀ x ∈ xs, G x

theorem trodAll_ext {H : Type} {enc : TypeId × Value → H} {P : Program} (hl : laidOutB P = true) {W W' : World} (hb : Below W.heap.size W W') : ∀ (ts : List TypeId) (vs : List Value) (ds : List (DataW H)) (ps : List MemPlace),
    (ts.all fun t => P.readableRec t && decide (t < P.types.size)) = true → DataW.TrodAll enc P W 0 (fun _ => true) true ts vs ds ps → (∀ x ∈ ps, x.block < W.heap.size) → DataW.TrodAll enc P W' 0 (fun b => decide (b < W.heap.size)) true ts vs ds ps
  | [], vs, ds, ps, _, h, _ => by
    cases vs <;> cases ds <;> simp_all [DataW.TrodAll]
  | t :: ts, vs, ds, ps, hr, h, hlt => by
    obtain ⟨v, vs', d, ds', p, q, rfl, rfl, rfl, h1, h2⟩ := trodAll_cons h
    simp only [List.all_cons, Bool.and_eq_true, decide_eq_true_eq] at hr
    exact ⟨p, q, Below.trod hl hr.1.1 hr.1.2 h1 hb (fun x hx => hlt x (List.mem_append_left _ hx)), trodAll_ext hl hb ts vs' ds' q hr.2 h2 (fun x hx => hlt x (List.mem_append_right _ hx)), rfl⟩

theorem Ext.below {w w' : World} (h : Ext No w w') : Below w.heap.size w w' := ⟨h.os, h.tape, h.output, h.size, fun k hk => h.block k hk fun h => h⟩

def ArgOk (P : Program) (W : World) (t : TypeId) (v : Value) : Prop := (∃ base, Value.okWide P W .any base t v) ∧ ∀ d, Shp P W d t v.cells.toList

def ArgsOk (P : Program) (W : World) : List TypeId → List Value → Prop
  | [], [] => True
  | t :: ts, v :: vs => ArgOk P W t v ∧ ArgsOk P W ts vs
  | _, _ => False

theorem ArgsOk.cons {P : Program} {W : World} {t : TypeId} {ts : List TypeId} {vs : List Value} (h : ArgsOk P W (t :: ts) vs) : ∃ v vs', vs = v :: vs' ∧ ArgOk P W t v ∧ ArgsOk P W ts vs' := by
  cases vs with
  | nil => exact h.elim
  | cons v vs => exact ⟨v, vs, rfl, h.1, h.2⟩
theorem ArgsOk.nil {P : Program} {W : World} {vs : List Value} (h : ArgsOk P W [] vs) : vs = [] := by
  cases vs with
  | nil => rfl
  | cons v vs => exact h.elim

theorem argsOk_of {H : Type} {enc : TypeId × Value → H} {P : Program} {W : World} {base : Nat} {sp : Nat → Bool} {held : Bool} : ∀ (ts : List TypeId) (vs : List Value) (ds : List (DataW H)) (ps : List MemPlace),
    (∀ (j : Nat) t v, ts[j]? = some t → vs[j]? = some v → Value.okWide P W .any base t v) → DataW.TrodAll enc P W 0 sp held ts vs ds ps → ArgsOk P W ts vs
  | [], vs, ds, ps, _, h => by
    cases vs <;> cases ds <;> simp_all [DataW.TrodAll, ArgsOk]
  | t :: ts, vs, ds, ps, hv, h => by
    obtain ⟨v, vs', d, ds', p, q, rfl, rfl, rfl, h1, h2⟩ := trodAll_cons h
    obtain ⟨fuel, hf⟩ := h1
    exact ⟨⟨⟨base, hv 0 t v rfl rfl⟩, fun d => trod_shp d _ _ _ _ hf⟩, argsOk_of ts vs' ds' q (fun j t' v' ht hv' => hv (j + 1) t' v' ht hv') h2⟩

end Go.Proofs.YtcioicoedmmkhaaGreatDoor.Ev

namespace Go.Proofs.YtcioicoedmmkhaaGreatDoor
open Go Ev

def errV (E : Nat → Addr) : Nat → Value
  | 0 => .nilIface
  | k + 1 => .iface 182 (.pointer (some (E (k + 1))))

def gErr : Nat → Nat
  | 1 => 0
  | 2 => 1
  | 3 => 2
  | 4 => 3
  | 5 => 4
  | 6 => 5
  | 7 => 6
  | 8 => 7
  | 9 => 8
  | 10 => 9
  | _ => 10

def errRow {H : Type} : Nat → String × DataW H
  | 1 => ("twinrampart/api.ErrText", .iface "*errors.errorString" (.ptr (.agg [.lit (.string [116, 119, 105, 110, 114, 97, 109, 112, 97, 114, 116, 58, 32, 116, 101, 120, 116])])))
  | 2 => ("twinrampart/api.ErrBound", .iface "*errors.errorString" (.ptr (.agg [.lit (.string [116, 119, 105, 110, 114, 97, 109, 112, 97, 114, 116, 58, 32, 98, 111, 117, 110, 100])])))
  | 3 => ("twinrampart/api.ErrShape", .iface "*errors.errorString" (.ptr (.agg [.lit (.string [116, 119, 105, 110, 114, 97, 109, 112, 97, 114, 116, 58, 32, 115, 104, 97, 112, 101])])))
  | 4 => ("twinrampart/api.ErrNone", .iface "*errors.errorString" (.ptr (.agg [.lit (.string [116, 119, 105, 110, 114, 97, 109, 112, 97, 114, 116, 58, 32, 110, 111, 110, 101])])))
  | 5 => ("twinrampart/api.ErrExist", .iface "*errors.errorString" (.ptr (.agg [.lit (.string [116, 119, 105, 110, 114, 97, 109, 112, 97, 114, 116, 58, 32, 101, 120, 105, 115, 116])])))
  | 6 => ("twinrampart/api.ErrFull", .iface "*errors.errorString" (.ptr (.agg [.lit (.string [116, 119, 105, 110, 114, 97, 109, 112, 97, 114, 116, 58, 32, 102, 117, 108, 108])])))
  | 7 => ("twinrampart/api.ErrOff", .iface "*errors.errorString" (.ptr (.agg [.lit (.string [116, 119, 105, 110, 114, 97, 109, 112, 97, 114, 116, 58, 32, 111, 102, 102])])))
  | 8 => ("twinrampart/api.ErrDeny", .iface "*errors.errorString" (.ptr (.agg [.lit (.string [116, 119, 105, 110, 114, 97, 109, 112, 97, 114, 116, 58, 32, 100, 101, 110, 121])])))
  | 9 => ("twinrampart/api.ErrState", .iface "*errors.errorString" (.ptr (.agg [.lit (.string [116, 119, 105, 110, 114, 97, 109, 112, 97, 114, 116, 58, 32, 115, 116, 97, 116, 101])])))
  | 10 => ("twinrampart/api.ErrOld", .iface "*errors.errorString" (.ptr (.agg [.lit (.string [116, 119, 105, 110, 114, 97, 109, 112, 97, 114, 116, 58, 32, 111, 108, 100])])))
  | _ => ("twinrampart/api.ErrHeld", .iface "*errors.errorString" (.ptr (.agg [.lit (.string [116, 119, 105, 110, 114, 97, 109, 112, 97, 114, 116, 58, 32, 104, 101, 108, 100])])))

theorem errRow_named (k : Nat) : Tryz.prog.globalNamed (errRow (H := Unit) k).1 = some (gErr k) ∧ (Tryz.prog.globals[gErr k]?).map (·.type) = some 28 := by
  unfold errRow gErr
  split <;> exact ⟨by kernel_rfl, by kernel_rfl⟩

theorem errRow_form (k : Nat) : ∃ n text, errRow (H := Unit) k = (n, .iface "*errors.errorString" (.ptr (.agg [.lit (.string text)]))) := by
  unfold errRow
  split <;> exact ⟨_, _, rfl⟩

theorem errStar : "*" ++ "errors.errorString" = "*errors.errorString" := by decide
theorem errStr_only (u : TypeId) (h : Tryz.prog.typeName? 3 u = some "*errors.errorString") : u = 182 :=
  typeName_ptr_named (nm := "errors.errorString") (by rw [errStar]; kernel_rfl) (by kernel_rfl) (by decide) u (by rw [errStar]; exact h)

structure Errs (w : World) (E : Nat → Addr) (n : Nat) (ks : List Nat) : Prop where
  at_ : ∀ k, ks.contains k = true → w.cell? ⟨gErr k, 0, none⟩ = some (.iface 182 (.pointer (some (E k))))
  lt : ∀ k, ks.contains k = true → gErr k < n
  row : ∀ k, ks.contains k = true → (∃ c t, w.heap[(E k).block]? = some (.cells c t (0, 0))) ∧ (E k).block < n
  inj : ∀ j k, ks.contains j = true → ks.contains k = true → j ≠ k → E j ≠ E k

theorem Errs.ext {w w' : World} {E : Nat → Addr} {n : Nat} {ks : List Nat} {S : Nat → Prop} (h : Errs w E n ks) (hx : Ext S w w') (hS : ∀ b, S b → n ≤ b) : Errs w' E n ks :=
  ⟨fun k hk => hx.cell (h.at_ k hk) (fun hs => by have := hS _ hs; have := h.lt k hk; omega), h.lt, fun k hk => by
    obtain ⟨⟨c, t, hc⟩, hb⟩ := h.row k hk
    refine ⟨⟨c, t, ?_⟩, hb⟩
    rw [hx.block _ (Array.getElem?_eq_some_iff.1 hc).1 (fun hs => by have := hS _ hs; omega)]
    exact hc, h.inj⟩
theorem Errs.sub {w : World} {E : Nat → Addr} {n : Nat} {ks ks' : List Nat} (h : Errs w E n ks) (hs : ks'.all (fun k => ks.contains k) = true) : Errs w E n ks' := by
  have key : ∀ k, ks'.contains k = true → ks.contains k = true := fun k hk => List.all_eq_true.1 hs k (by simpa using hk)
  exact ⟨fun k hk => h.at_ k (key k hk), fun k hk => h.lt k (key k hk), fun k hk => h.row k (key k hk), fun j k hj hk => h.inj j k (key j hj) (key k hk)⟩
theorem laidVars_sub {P : Program} {w : World} {l l' : List (String × DataW Unit)} (hs : l'.Sublist l) : ∀ {ps : List MemPlace}, DataW.LaidVars P w l ps → ∃ ps', DataW.LaidVars P w l' ps' ∧ ps'.Sublist ps := by
  induction hs with
  | slnil => exact fun {ps} h => ⟨ps, h, List.Sublist.refl _⟩
  | cons x hs ih =>
    intro ps h
    obtain ⟨n, d⟩ := x
    obtain ⟨g, t, cs, fuel, p, q, e1, e2, e3, e4, hr, rfl⟩ := h
    obtain ⟨q', hq, hs⟩ := ih hr
    exact ⟨q', hq, hs.trans (List.sublist_append_right _ _)⟩
  | cons_cons x hs ih =>
    intro ps h
    obtain ⟨n, d⟩ := x
    obtain ⟨g, t, cs, fuel, p, q, e1, e2, e3, e4, hr, rfl⟩ := h
    obtain ⟨q', hq, hs⟩ := ih hr
    exact ⟨_, ⟨g, t, cs, fuel, p, q', e1, e2, e3, e4, hq, rfl⟩, List.Sublist.append (List.Sublist.refl _) hs⟩
theorem laidMet_sub {P : Program} {w : World} {l l' : List (String × DataW Unit)} (hs : l'.Sublist l) (h : laidMet P l w) : laidMet P l' w := by
  obtain ⟨ps, hl, hnd, hrows⟩ := h
  obtain ⟨ps', hl', hs⟩ := laidVars_sub hs hl
  exact ⟨ps', hl', hnd.sublist hs, fun b off hp => hrows b off (hs.subset hp)⟩
theorem pair_sub {α : Type} {x y : α} (hne : x ≠ y) {l : List α} (hx : x ∈ l) (hy : y ∈ l) : [x, y].Sublist l ∨ [y, x].Sublist l := by
  induction l with
  | nil => cases hx
  | cons z l ih =>
    rcases List.mem_cons.1 hx with h1 | h1
    · rcases List.mem_cons.1 hy with h2 | h2
      · exact absurd (h1.trans h2.symm) hne
      · subst h1
        exact .inl (.cons_cons _ (List.singleton_sublist.2 h2))
    · rcases List.mem_cons.1 hy with h2 | h2
      · subst h2
        exact .inr (.cons_cons _ (List.singleton_sublist.2 h1))
      · rcases ih h1 h2 with h | h
        · exact .inl (.cons _ h)
        · exact .inr (.cons _ h)

theorem gErr_inj (j : Nat) (hj : j < 12) (k : Nat) (hk : k < 12) (j0 : 1 ≤ j) (k0 : 1 ≤ k) (hne : j ≠ k) : gErr j ≠ gErr k := by
  have h : ((List.range 12).all fun j => (List.range 12).all fun k => Nat.ble j 0 || Nat.ble k 0 || Nat.beq j k || !Nat.beq (gErr j) (gErr k)) = true := by rfl
  have h1 := List.all_eq_true.1 (List.all_eq_true.1 h j (List.mem_range.2 hj)) k (List.mem_range.2 hk)
  intro he
  rw [he] at h1
  simp at h1
  omega

theorem sentinel1 {P : Program} {n nm : String} {text : List UInt8} {W : World} {g : Nat} {ti tp te ts : TypeId} {ms : Array (String × TypeId)} {f : Field}
    (h : laidMet P [(n, .iface nm (.ptr (.agg [.lit (.string text)])))] W)
    (hg : P.globalNamed n = some g) (ht : (P.globals[g]?).map (·.type) = some ti) (hi : P.underlying ti = some (.interface ms)) (hrow : ∀ u, P.typeName? 3 u = some nm → u = tp)
    (hp : P.underlying tp = some (.pointer te)) (he : P.underlying te = some (.struct #[f])) (hft : f.type = ts) (hfo : f.offset = 0) (hs : P.underlying ts = some .string) (hc : P.cellsOf te = 1) (hcs : P.cellsOf ts = 1) :
    ∃ (a : Addr), W.cell? ⟨g, 0, none⟩ = some (.iface tp (.pointer (some a))) ∧ (∃ c t, W.heap[a.block]? = some (.cells c t (0, 0))) := by
  obtain ⟨ps, ⟨g0, t0, cs0, f0, p0, q0, hg0, ht0, hv0, hd0, _, e0⟩, _, hrows⟩ := h
  obtain rfl := Option.some.inj (hg.symm.trans hg0)
  obtain rfl := Option.some.inj (ht.symm.trans ht0)
  subst e0
  obtain ⟨l0⟩ := cs0
  have ok0 : ∀ u v, l0 = [.iface u v] → Value.okWide P W .any 0 u v := fun u v e => by
    subst e
    exact (hrows g 0 (by simp [MemPlace.row])).2 u v (by simpa using World.var?_cell hg0 hv0 0)
  obtain ⟨a0, s0, rfl, hc0, hs0, hz0, rfl⟩ := errorString_of_trod hi hrow hp he hft hfo hs hc hcs hd0 ok0
  refine ⟨a0, by simpa using World.var?_cell hg0 hv0 0, ?_⟩
  obtain ⟨c, t, hb⟩ := (hrows a0.block a0.off (by simp [MemPlace.row])).1
  exact ⟨c, t, hb⟩

theorem errs_of {L : List (String × DataW Unit)} {W : World} (ks : List Nat) (hks : ks.all (fun k => decide (1 ≤ k ∧ k < 12)) = true) (hl : laidMetH Tryz.prog L W) (hm : ∀ k ∈ ks, errRow k ∈ L) : ∃ E, Errs W E W.heap.size ks := by
  have h1 := (laidMetH_iff.1 hl).1
  have hin : ∀ k, k ∈ ks → errRow (H := Unit) k ∈ L.filter fun x => x.2.handleName?.isNone := fun k hk => by
    obtain ⟨n, text, hf⟩ := errRow_form k
    refine List.mem_filter.2 ⟨hm k hk, ?_⟩
    rw [hf]
    rfl
  have key : ∀ k, ∃ a : Addr, k ∈ ks → W.cell? ⟨gErr k, 0, none⟩ = some (.iface 182 (.pointer (some a))) ∧ (∃ c t, W.heap[a.block]? = some (.cells c t (0, 0))) := by
    intro k
    by_cases hk : k ∈ ks
    · have hk2 := hin k hk
      obtain ⟨hg, ht⟩ := errRow_named k
      obtain ⟨n, text, hf⟩ := errRow_form k
      rw [hf] at hk2 hg
      have h2 := laidMet_sub (List.singleton_sublist.2 hk2) h1
      obtain ⟨a, h3, h4⟩ := sentinel1 (P := Tryz.prog) h2 hg ht Tryz.underlying28 errStr_only Tryz.underlying182 Tryz.underlying184 rfl rfl Tryz.underlying9 (by kernel_rfl) (by kernel_rfl)
      exact ⟨a, fun _ => ⟨h3, h4⟩⟩
    · exact ⟨⟨0, 0, none⟩, fun h => absurd h hk⟩
  have spec : ∀ k, ks.contains k = true → _ := fun k hk => (key k).choose_spec (by simpa using hk)
  refine ⟨fun k => (key k).choose, fun k hk => (spec k hk).1, fun k hk => ?_, fun k hk => ?_, fun j k hj hk hne => ?_⟩
  · exact cell_lt (spec k hk).1
  · obtain ⟨_, c, t, hc⟩ := spec k hk
    exact ⟨⟨c, t, hc⟩, (Array.getElem?_eq_some_iff.1 hc).1⟩
  · have bj := of_decide_eq_true (List.all_eq_true.1 hks j (by simpa using hj))
    have bk := of_decide_eq_true (List.all_eq_true.1 hks k (by simpa using hk))
    have gne := gErr_inj j bj.2 k bk.2 bj.1 bk.1 hne
    have two : ∀ j k, ks.contains j = true → ks.contains k = true → [errRow (H := Unit) j, errRow k].Sublist (L.filter fun x => x.2.handleName?.isNone) → (key j).choose ≠ (key k).choose := by
      intro j k hj hk hsub
      have h2 := laidMet_sub hsub h1
      obtain ⟨hgj, htj⟩ := errRow_named j
      obtain ⟨hgk, htk⟩ := errRow_named k
      obtain ⟨nj, textj, hfj⟩ := errRow_form j
      obtain ⟨nk, textk, hfk⟩ := errRow_form k
      rw [hfj] at hgj
      rw [hfk] at hgk
      rw [hfj, hfk] at h2
      obtain ⟨a0, a1, _, _, _, _, _, _, v0, v1, _, _, _, _, _, _, hne2, _⟩ := laid_sentinels2 (P := Tryz.prog) h2 hgj htj hgk htk Tryz.underlying28 errStr_only Tryz.underlying182 Tryz.underlying184 rfl rfl Tryz.underlying9 (by kernel_rfl) (by kernel_rfl)
      have c0 : W.cell? ⟨gErr j, 0, none⟩ = some (.iface 182 (.pointer (some a0))) := by simpa using World.var?_cell hgj v0 0
      have c1 : W.cell? ⟨gErr k, 0, none⟩ = some (.iface 182 (.pointer (some a1))) := by simpa using World.var?_cell hgk v1 0
      have d0 := (spec j hj).1
      have d1 := (spec k hk).1
      have d0 := c0.symm.trans d0
      have d1 := c1.symm.trans d1
      simp only [Option.some.injEq, Value.iface.injEq, Value.pointer.injEq, true_and] at d0 d1
      intro he
      exact hne2 (d0.trans (he.trans d1.symm))
    have hrne : errRow (H := Unit) j ≠ errRow k := by
      intro he
      have a := (errRow_named j).1
      rw [he, (errRow_named k).1] at a
      exact gne (Option.some.inj a).symm
    rcases pair_sub hrne (hin j (by simpa using hj)) (hin k (by simpa using hk)) with h | h
    · exact two j k hj hk h
    · exact (two k j hk hj h).symm
end Go.Proofs.YtcioicoedmmkhaaGreatDoor

namespace Go.Proofs.YtcioicoedmmkhaaGreatDoor.Ev
open Go

inductive Pr where
  | int (n : Int)
  | bool (b : Bool)
  | str (s : ByteArray)
  deriving DecidableEq
inductive PK where
  | int | bool | str
  deriving DecidableEq
def Pr.k : Pr → PK
  | .int _ => .int
  | .bool _ => .bool
  | .str _ => .str
def Pr.v : Pr → Value
  | .int n => .int .i64 n
  | .bool b => .bool b
  | .str s => .string s

def flatFs (P : Program) (rec_ : TypeId → Option (List PK)) : List Field → Nat → Option (List PK)
  | [], _ => some []
  | f :: r, off => match f.name != "_" && f.offset == off && (P.info? f.type).isSome && (P.underlying f.type).isSome with
    | false => none
    | true => match rec_ f.type with
      | none => none
      | some k => match P.cellsOf f.type == k.length && (aggB P f.type || k.length == 1) with
        | false => none
        | true => (flatFs P rec_ r (off + k.length)).map (k ++ ·)
def flatK (P : Program) : Nat → TypeId → Option (List PK)
  | 0, _ => none
  | d + 1, t => match P.underlying t with
    | some (.int .i64) => some [.int]
    | some .bool => some [.bool]
    | some .string => some [.str]
    | some (.struct fs) => match P.stoodInHeld t with
      | true => none
      | false => flatFs P (flatK P d) fs.toList 0
    | _ => none

theorem bbeq (a b : ByteArray) : (a == b) = decide (a = b) := by
  obtain ⟨x⟩ := a
  obtain ⟨y⟩ := b
  show (x == y) = _
  by_cases h : x = y <;> simp [h]

section
variable {P : Program}

def mkv (P : Program) (t : TypeId) (l : List Pr) : Value := match aggB P t with
  | true => .agg (l.map Pr.v).toArray
  | false => (l.map Pr.v).headD undef

theorem kinds_one {l : List Pr} {k : PK} (h : l.map Pr.k = [k]) : ∃ p, l = [p] ∧ p.k = k := by
  match l, h with
  | [p], h => exact ⟨p, rfl, by simpa using h⟩

theorem part_mkv {t : TypeId} {l : List Pr} {off n : Nat} (hi : (P.info? t).isSome = true) (hd : ∃ d, P.underlying t = some d) (hn : P.cellsOf t = n) (h1 : aggB P t = false → n = 1) (hle : off + n ≤ l.length) (w : World) :
    (part t (l.map Pr.v).toArray off).run P w = .ok (mkv P t ((l.drop off).take n)) w := by
  unfold mkv
  cases hg : aggB P t with
  | true =>
    rw [part_run hi hd hn (by simpa using hle) hg w]
    simp
  | false =>
    have := h1 hg
    subst this
    have hlt : off < l.length := by omega
    have e : l.drop off = l[off] :: l.drop (off + 1) := by rw [List.drop_eq_getElem_cons hlt]
    rw [part_run1 (v := l[off].v) hd (by simp [hlt]) hg w, e]
    rfl

theorem flatFs_eq {rec_ : TypeId → Option (List PK)} {D : Nat} (IH : ∀ (t : TypeId) (ks : List PK) (a b : List Pr), rec_ t = some ks → a.map Pr.k = ks → b.map Pr.k = ks → ∀ w, (Op.equalIn D t (mkv P t a) (mkv P t b)).run P w = .ok (decide (a = b)) w) :
    ∀ (fs : List Field) (off : Nat) (ks : List PK) (a b : List Pr), flatFs P rec_ fs off = some ks → ((a.drop off).take ks.length).map Pr.k = ks → ((b.drop off).take ks.length).map Pr.k = ks → off + ks.length ≤ a.length → off + ks.length ≤ b.length →
    ∀ w, (Op.eqFields D (a.map Pr.v).toArray (b.map Pr.v).toArray fs).run P w = .ok (decide ((a.drop off).take ks.length = (b.drop off).take ks.length)) w := by
  intro fs
  induction fs with
  | nil =>
    intro off ks a b h ha hb la lb w
    simp only [flatFs, Option.some.injEq] at h
    subst h
    simp [Op.eqFields]
  | cons f r ih =>
    intro off ks a b h ha hb la lb w
    unfold flatFs at h
    split at h
    · cases h
    · rename_i hc
      simp only [Bool.and_eq_true, bne_iff_ne, ne_eq, beq_iff_eq] at hc
      obtain ⟨⟨⟨hn, rfl⟩, hi⟩, hu⟩ := hc
      have hd' := Option.isSome_iff_exists.1 hu
      split at h
      · cases h
      · rename_i k hk
        split at h
        · cases h
        · rename_i hcs
          simp only [Bool.and_eq_true, Bool.or_eq_true, beq_iff_eq] at hcs
          obtain ⟨hcs, hone'⟩ := hcs
          have hone : aggB P f.type = false → k.length = 1 := fun hg => hone'.resolve_left (by simp [hg])
          obtain ⟨ks', hr, rfl⟩ := Option.map_eq_some_iff.1 h
          simp only [List.length_append] at la lb ha hb ⊢
          have sp : ∀ (l : List Pr) (i m n : Nat), (l.drop i).take (m + n) = (l.drop i).take m ++ (l.drop (i + m)).take n := by
            intro l i m n
            rw [List.take_add, List.drop_drop]
          rw [sp, List.map_append] at ha hb
          have ea := List.append_inj ha (by simp; omega)
          have eb := List.append_inj hb (by simp; omega)
          have pa := part_mkv (P := P) (t := f.type) (l := a) (off := f.offset) hi hd' hcs hone (by omega)
          have pb := part_mkv (P := P) (t := f.type) (l := b) (off := f.offset) hi hd' hcs hone (by omega)
          have he := IH f.type k ((a.drop f.offset).take k.length) ((b.drop f.offset).take k.length) hk ea.1 eb.1
          have hrest := ih (f.offset + k.length) ks' a b hr ea.2 eb.2 (by omega) (by omega)
          rw [Op.eqFields, if_pos hn]
          simp only [Sem.run_bind, pa, pb, Result.andThen_ok, he]
          rw [sp, sp]
          by_cases h : (a.drop f.offset).take k.length = (b.drop f.offset).take k.length
          · simp only [h, decide_true, Bool.not_true, Bool.false_eq_true, if_false, hrest, List.append_cancel_left_eq]
          · have hne : ¬ ((a.drop f.offset).take k.length ++ (a.drop (f.offset + k.length)).take ks'.length = (b.drop f.offset).take k.length ++ (b.drop (f.offset + k.length)).take ks'.length) := by
              intro e
              exact h (List.append_inj e (by simp; omega)).1
            simp [h, hne]

theorem flat_eq : ∀ (d : Nat) (t : TypeId) (ks : List PK) (D : Nat) (a b : List Pr), flatK P d t = some ks → d ≤ D → a.map Pr.k = ks → b.map Pr.k = ks → ∀ w, (Op.equalIn D t (mkv P t a) (mkv P t b)).run P w = .ok (decide (a = b)) w := by
  intro d
  induction d with
  | zero => intro t ks D a b h; simp [flatK] at h
  | succ d ih =>
    intro t ks D a b h hD ha hb w
    obtain ⟨D, rfl⟩ : ∃ D', D = D' + 1 := ⟨D - 1, by omega⟩
    unfold flatK at h
    split at h
    · rename_i hu
      simp only [Option.some.injEq] at h
      subst h
      obtain ⟨p, rfl, hp⟩ := kinds_one ha
      obtain ⟨q, rfl, hq⟩ := kinds_one hb
      cases p <;> simp [Pr.k] at hp
      cases q <;> simp [Pr.k] at hq
      rename_i x y
      have hg : aggB P t = false := by simp [aggB, hu]
      simp only [mkv, hg, List.map_cons, List.map_nil, List.headD_cons, Pr.v]
      have e : (Op.equalIn (D + 1) t (.int .i64 x) (.int .i64 y)).run P w = .ok (x == y) w := by simp [Op.equalIn, underlying, hu]
      rw [e]
      congr 1
      by_cases h : x = y <;> simp [h]
    · rename_i hu
      simp only [Option.some.injEq] at h
      subst h
      obtain ⟨p, rfl, hp⟩ := kinds_one ha
      obtain ⟨q, rfl, hq⟩ := kinds_one hb
      cases p <;> simp [Pr.k] at hp
      cases q <;> simp [Pr.k] at hq
      rename_i x y
      have hg : aggB P t = false := by simp [aggB, hu]
      simp only [mkv, hg, List.map_cons, List.map_nil, List.headD_cons, Pr.v]
      have e : (Op.equalIn (D + 1) t (.bool x) (.bool y)).run P w = .ok (x == y) w := by simp [Op.equalIn, underlying, hu]
      rw [e]
      congr 1
      by_cases h : x = y <;> simp [h]
    · rename_i hu
      simp only [Option.some.injEq] at h
      subst h
      obtain ⟨p, rfl, hp⟩ := kinds_one ha
      obtain ⟨q, rfl, hq⟩ := kinds_one hb
      cases p <;> simp [Pr.k] at hp
      cases q <;> simp [Pr.k] at hq
      rename_i x y
      have hg : aggB P t = false := by simp [aggB, hu]
      simp only [mkv, hg, List.map_cons, List.map_nil, List.headD_cons, Pr.v]
      have e : (Op.equalIn (D + 1) t (.string x) (.string y)).run P w = .ok (x == y) w := by simp [Op.equalIn, underlying, hu]
      rw [e, bbeq]
      congr 1
      by_cases h : x = y <;> simp [h]
    · rename_i fs hu
      split at h
      · cases h
      · rename_i hst
        have hg : aggB P t = true := by simp [aggB, hu]
        have hf : P.fieldsOf t = fs := by simp [Program.fieldsOf, hu]
        have := flatFs_eq (P := P) (D := D) (fun t ks a b h ha hb => ih t ks D a b h (by omega) ha hb) fs.toList 0 ks a b h (by rw [List.drop_zero, List.map_take, ha, List.take_length]) (by rw [List.drop_zero, List.map_take, hb, List.take_length]) (by rw [← ha]; simp) (by rw [← hb]; simp) w
        simp only [mkv, hg]
        rw [run_equalIn_struct w D t _ _ (by rw [hf]; exact hu) hst, hf, this]
        congr 2
        have la : a.length = ks.length := by rw [← ha]; simp
        have lb : b.length = ks.length := by rw [← hb]; simp
        rw [List.drop_zero, List.drop_zero, ← la, List.take_length, la, ← lb, List.take_length]
    · cases h

theorem eqS {t : TypeId} {ks : List PK} {a b : List Pr} {k : Value → Prop} (h : flatK P 50 t = some ks) (hs : aggB P t = true) (hg : P.eqGuardType P.depth t = false) (ha : a.map Pr.k = ks) (hb : b.map Pr.k = ks) (hk : k (.bool (decide (a = b)))) :
    PureC P (do eqGuard .eql t (.tmp 0) (.tmp 0) (.agg (a.map Pr.v).toArray) (.agg (b.map Pr.v).toArray); Go.binOp .eql t (.agg (a.map Pr.v).toArray) (.agg (b.map Pr.v).toArray)) k := by
  refine ⟨_, fun w => ?_, hk⟩
  have e := flat_eq 50 t ks 10000 a b h (by decide) ha hb w
  simp only [mkv, hs] at e
  have e1 : (eqGuard .eql t (.tmp 0) (.tmp 0) (.agg (a.map Pr.v).toArray) (.agg (b.map Pr.v).toArray)).run P w = .ok () w := by
    simp [eqGuard, run_program, hg, Sem.run_bind]
  rw [Sem.run_bind, e1, Result.andThen_ok]
  show (do pure (.bool (← Op.equal t _ _)) : Sem Value).run P w = _
  rw [Sem.run_bind]
  show (Result.andThen ((Op.equalIn 10000 t _ _).run P w) _) = _
  rw [e]
  rfl
theorem eqStr {a b : ByteArray} {k : Value → Prop} {t : TypeId} (hk : k (.bool (decide (a = b)))) : PureC P (Go.binOp .eql t (.string a) (.string b)) k := by
  refine ⟨_, fun w => ?_, hk⟩
  rw [← bbeq, beq_toListBytes]
  rfl
theorem neStr {a b : ByteArray} {k : Value → Prop} {t : TypeId} (hk : k (.bool (!decide (a = b)))) : PureC P (Go.binOp .neq t (.string a) (.string b)) k := by
  refine ⟨_, fun w => ?_, hk⟩
  rw [← bbeq, beq_toListBytes]
  rfl
end
end Go.Proofs.YtcioicoedmmkhaaGreatDoor.Ev

namespace Go.Proofs.YtcioicoedmmkhaaGreatDoor.Ev
open Go

structure Codec {α : Type} (sz : Nat) (enc : α → List Value) : Prop where
  len : ∀ x, (enc x).length = sz
  one : ∀ x, (enc x).all isOne = true
  pos : 0 < sz

section
variable {α : Type} {sz : Nat} {enc : α → List Value}

theorem flat_len (C : Codec sz enc) (xs : List α) : (xs.flatMap enc).length = xs.length * sz := by
  induction xs with
  | nil => simp
  | cons x xs ih => rw [List.flatMap_cons, List.length_append, ih, C.len, List.length_cons]; rw [Nat.succ_mul]; omega
theorem flat_one (C : Codec sz enc) (xs : List α) : (xs.flatMap enc).all isOne = true := by
  induction xs with
  | nil => rfl
  | cons x xs ih => rw [List.flatMap_cons, List.all_append, ih, C.one]; rfl
theorem flat_split (C : Codec sz enc) : ∀ {xs : List α} {k : Nat} {x : α}, xs[k]? = some x → xs.flatMap enc = (xs.take k).flatMap enc ++ (enc x ++ (xs.drop (k + 1)).flatMap enc) ∧ ((xs.take k).flatMap enc).length = k * sz
  | [], _, _, h => by simp at h
  | y :: xs, 0, x, h => by
    simp only [List.getElem?_cons_zero, Option.some.injEq] at h
    subst h
    simp
  | y :: xs, k + 1, x, h => by
    simp only [List.getElem?_cons_succ] at h
    obtain ⟨h1, h2⟩ := flat_split C h
    constructor
    · rw [List.flatMap_cons, List.take_succ_cons, List.flatMap_cons, List.drop_succ_cons, List.append_assoc, ← h1]
    · rw [List.take_succ_cons, List.flatMap_cons, List.length_append, h2, C.len, Nat.succ_mul]; omega
theorem flat_get (C : Codec sz enc) {xs : List α} {k j : Nat} {x : α} {v : Value} (hx : xs[k]? = some x) (hv : (enc x)[j]? = some v) : (xs.flatMap enc)[k * sz + j]? = some v := by
  obtain ⟨h1, h2⟩ := flat_split C hx
  have hj := (List.getElem?_eq_some_iff.1 hv).1
  rw [h1, List.getElem?_append_right (by omega), h2, Nat.add_sub_cancel_left, List.getElem?_append_left hj]
  exact hv
theorem over_mid (A B D vs : List Value) (j : Nat) (h : j + vs.length ≤ B.length) : over (A ++ (B ++ D)) (A.length + j) vs = A ++ (over B j vs ++ D) := by
  unfold over
  rw [List.take_append, List.drop_append, List.take_of_length_le (by omega), Nat.add_sub_cancel_left, List.drop_eq_nil_of_le (by omega), List.take_append_of_le_length (by omega), List.nil_append]
  rw [show A.length + j + vs.length - A.length = j + vs.length by omega, List.drop_append_of_le_length h]
  simp
theorem flat_over (C : Codec sz enc) {xs : List α} {k j : Nat} {x y : α} {vs : List Value} (hx : xs[k]? = some x) (hn : j + vs.length ≤ sz) (hy : over (enc x) j vs = enc y) : over (xs.flatMap enc) (k * sz + j) vs = (xs.set k y).flatMap enc := by
  obtain ⟨h1, h2⟩ := flat_split C hx
  have hl := C.len x
  have hlt := (List.getElem?_eq_some_iff.1 hx).1
  rw [h1, ← h2, over_mid _ _ _ _ _ (by omega), hy]
  have hy' : (xs.set k y)[k]? = some y := by rw [List.getElem?_set_self hlt]
  rw [(flat_split C hy').1, List.take_set_of_le (by omega), List.drop_set_of_lt (by omega)]
theorem over_whole {cs vs : List Value} (h : vs.length = cs.length) : over cs 0 vs = vs := by
  unfold over
  rw [List.drop_eq_nil_of_le (by omega)]
  simp
variable {G : α → Prop} {w w' : World} {S T : Nat → Prop} {a : Option Addr} {b o n : Nat} {xs : List α}
theorem CellsAt.lt {l : List Value} (h : CellsAt w b o l) (hl : 0 < l.length) : b < w.heap.size := cell_lt (h 0 _ (List.getElem?_eq_getElem hl))

theorem Slc.of_cells (C : Codec sz enc) (hl : xs.length = n) (hm : n ≤ 9223372036854775807) (hg : ∀ x ∈ xs, G x) (hc : ∀ (j : Nat) v, (xs.flatMap enc)[j]? = some v → ∃ b o, a = some ⟨b, o, none⟩ ∧ w.cell? ⟨b, o + j, none⟩ = some v) : Slc w sz enc G a n xs :=
  ⟨hl, hm, fun k x hk => by
    have hp := C.pos
    have hlx := C.len x
    obtain ⟨v0, hv0⟩ : ∃ v, (enc x)[0]? = some v := ⟨_, List.getElem?_eq_getElem (by omega)⟩
    obtain ⟨b, o, ha, hc0⟩ := hc _ _ (flat_get C hk hv0)
    refine ⟨b, o, ha, cell_lt hc0, fun j v hj => ?_⟩
    obtain ⟨b', o', ha', hc'⟩ := hc _ _ (flat_get C hk hj)
    rw [ha] at ha'
    simp only [Option.some.injEq, Addr.mk.injEq, and_true] at ha'
    obtain ⟨rfl, rfl⟩ := ha'
    rw [Nat.add_assoc]
    exact hc', hg⟩
theorem Slc.of_blk (C : Codec sz enc) {t : TypeId} {cs : List Value} (h : Blk w b t cs) (hl : xs.length = n) (hm : n ≤ 9223372036854775807) (hg : ∀ x ∈ xs, G x) (hs : (cs.drop o).take (xs.length * sz) = xs.flatMap enc) : Slc w sz enc G (some ⟨b, o, none⟩) n xs :=
  Slc.of_cells C hl hm hg fun j v hj => ⟨b, o, rfl, by
    have hlt := (List.getElem?_eq_some_iff.1 hj).1
    rw [flat_len C] at hlt
    rw [h.cell, ← List.getElem?_drop, ← List.getElem?_take_of_lt hlt, hs]
    exact hj⟩

def ownL {α : Type} (e : TypeId) (sz : Nat) (enc : α → List Value) (v : Value) (xs : List α) : Ent := own e sz v xs.length (xs.flatMap enc)
theorem ownL_local {e : TypeId} {v : Value} : (ownL e sz enc v xs).Local := own_local _ _ _ _ _
end

section
variable {P : Program} {α : Type} {sz : Nat} {enc : α → List Value} {w0 w w' : World} {S T : Nat → Prop} {H : List Ent}

theorem oneCell_of {v : Value} (h : isOne v = true) : v.oneCell' = true := by cases v <;> simp_all [isOne, Value.oneCell']

theorem grew (h : St w0 S w H) {i : Nat} {e : TypeId} {size : Nat} {v v' : Value} {n n' : Nat} {xs xs' : List Value} (hi : H[i]? = some (own e size v n xs)) (ho : w'.ownsRow 0 e size v' n' xs') (hg : w.grownBy w' v.ownBlock) (hb : v'.ownBlock = v.ownBlock ∨ v'.ownBlock = some w.heap.size) :
    St w0 S w' (H.set i (own e size v' n' xs')) := by
  refine h.upd i hi (Ext.of_grown hg) (fun q hq => by simp [own, hq]) (own_local _ _ _ _ _) ho ?_
  intro q hq
  have hq : v'.ownBlock = some q := by simpa [own] using hq
  rcases hb with hb | hb
  · left; simp only [own]; rw [← hb, hq]; simp
  · right
    rw [hb] at hq
    simp only [Option.some.injEq] at hq
    subst hq
    refine ⟨Nat.le_refl _, ?_⟩
    obtain ⟨_, ⟨h6, _⟩ | ⟨g, cap, cur, h6, _, h7, _⟩⟩ := ho
    · rw [h6] at hb; simp [Value.ownBlock] at hb
    · rw [h6] at hb
      simp only [Value.ownBlock, Option.some.injEq] at hb
      subst hb
      exact (Array.getElem?_eq_some_iff.1 h7).1

theorem St.appS (h : St w0 S w H) (C : Codec sz enc) (i : Nat) {t e : TypeId} {bytes : Nat} {z v : Value} {a : Option Addr} {m c : Nat} {G : α → Prop} {xs ys : List α} {k : Value → World → Prop}
    (hu : P.underlying t = some (.slice e)) (hs : (P.info? e).map (fun i => (i.size, i.bytes)) = some (sz, bytes)) (hz : (P.info? e).bind (·.zero) = some z) (hzs : Nat.beq z.cells.size sz = true)
    (hi : H[i]? = some (ownL e sz enc v xs)) (hy : Slc w sz enc G a m ys) (h63 : xs.length + m ≤ maxLen) (hbytes : (xs.length + m) * bytes ≤ 140737488355328)
    (hk : ∀ a' c' w', St w0 S w' (H.set i (ownL e sz enc (.slice a' (xs.length + m) c') (xs ++ ys))) → k (.slice a' (xs.length + m) c') w') :
    RunC P (Builtin.append_ #[t, t] 0 #[v, .slice a m c]) w k := by
  obtain ⟨ie, h1', h2⟩ := Option.map_eq_some_iff.1 hs
  obtain ⟨ie', h3, h4⟩ := Option.bind_eq_some_iff.1 hz
  obtain rfl := Option.some.inj (h1'.symm.trans h3)
  simp only [Prod.mk.injEq] at h2
  have hlen := hy.len
  have hen : xs.length + m = (xs ++ ys).length := by simp [hlen]
  have hef : (xs ++ ys).flatMap enc = xs.flatMap enc ++ ys.flatMap enc := by simp
  have form : ∀ (v' : Value) (w' : World), w'.ownsRow 0 e sz v' (xs.length + m) (xs.flatMap enc ++ ys.flatMap enc) → ∃ a' c', v' = .slice a' (xs.length + m) c' := by
    rintro v' w' ⟨_, ⟨h6, h7⟩ | ⟨g, cap, cur, h6, _⟩⟩
    · exact ⟨none, 0, by rw [h6, h7]⟩
    · exact ⟨_, _, h6⟩
  cases a with
  | none =>
    have hm : ys = [] := by
      cases ys with
      | nil => rfl
      | cons y ys => obtain ⟨b, o, ha, _⟩ := hy.cells 0 y rfl; cases ha
    subst hm
    have hm : m = 0 := by simpa using hlen.symm
    subst hm
    have ho := h.get i hi
    obtain ⟨a', c', hv⟩ := form v w (by simpa [ownL, own] using ho)
    subst hv
    have hle : xs.length ≤ c' := by
      obtain ⟨_, ⟨h6, h7⟩ | ⟨g, cap, cur, h6, _, _, h8, _⟩⟩ := ho
      · simp only [Value.slice.injEq] at h6; omega
      · simp only [Value.slice.injEq] at h6; omega
    refine ⟨.slice a' (xs.length + 0) c', w, ?_, hk a' c' w ?_⟩
    · refine run_append_nothing w t t 0 e ie hu h1' a' (xs.length + 0) c' hle (.slice none 0 c) ⟨.inl ⟨_, hu⟩, fun w' => rfl, rfl, rfl, by simp, by simp⟩
    · have : H.set i (ownL e sz enc (.slice a' (xs.length + 0) c') (xs ++ [])) = H := by
        rw [List.append_nil]
        obtain ⟨hl, he⟩ := List.getElem?_eq_some_iff.1 hi
        apply List.ext_getElem?
        intro j
        rw [List.getElem?_set]
        split
        · rename_i he'
          subst he'
          simp [hl, he]
        · rfl
      rw [this]
      exact h
  | some a =>
    have hsp : ∀ j u, (ys.flatMap enc)[j]? = some u → w.cell? (a.add j) = some u := by
      intro j u hj
      have hlt := (List.getElem?_eq_some_iff.1 hj).1
      rw [flat_len C] at hlt
      have hk : j / sz < ys.length := by rw [Nat.div_lt_iff_lt_mul C.pos]; exact hlt
      obtain ⟨b, o, ha, _, hc⟩ := hy.cells (j / sz) _ (List.getElem?_eq_getElem hk)
      simp only [Option.some.injEq] at ha
      subst ha
      rw [add_none]
      have e1 : j = j / sz * sz + j % sz := by rw [Nat.mul_comm]; exact (Nat.div_add_mod j sz).symm
      have hmod : j % sz < (enc ys[j / sz]).length := by rw [C.len]; exact Nat.mod_lt _ C.pos
      have h5 := flat_get C (List.getElem?_eq_getElem hk) (List.getElem?_eq_getElem hmod)
      rw [← e1, hj] at h5
      simp only [Option.some.injEq] at h5
      have := hc (j % sz) u (by rw [List.getElem?_eq_getElem hmod, h5])
      rw [Nat.add_assoc, ← e1] at this
      exact this
    obtain ⟨v', w', hr, ho, hg, hnil, hb⟩ := run_append_own_at (P := P) w 0 t 0 e ie z sz bytes hu h1' h4 h2.1 h2.2 (Nat.eq_of_beq_eq_true hzs) C.pos v xs.length (xs.flatMap enc) (h.get i hi) a m c (ys.flatMap enc) (by rw [flat_len C, hlen])
      hsp (fun u hu => oneCell_of (List.all_eq_true.1 (flat_one C ys) u hu)) h63 hbytes (Nat.zero_le _)
    obtain ⟨a', c', rfl⟩ := form v' w' ho
    refine ⟨_, _, hr, hk a' c' w' ?_⟩
    have := grew h hi ho hg hb
    simpa [ownL, hlen] using this

theorem over_len {cs vs : List Value} {o : Nat} (h : o + vs.length ≤ cs.length) : (over cs o vs).length = cs.length := by
  simp only [over, List.length_append, List.length_take, List.length_drop]
  omega
theorem over_take {cs vs : List Value} {o n : Nat} (h : o + vs.length ≤ n) (hn : n ≤ cs.length) : (over cs o vs).take n = over (cs.take n) o vs := by
  have e := over_mid [] (cs.take n) (cs.drop n) vs o (by rw [List.length_take]; omega)
  simp only [List.nil_append, List.length_nil, Nat.zero_add, List.take_append_drop] at e
  have hl : (over (cs.take n) o vs).length = n := by rw [over_len (by rw [List.length_take]; omega), List.length_take]; omega
  rw [e, List.take_append_of_le_length (by omega), List.take_of_length_le (by omega)]

theorem St.ownSt (h : St w0 S w H) (i : Nat) {e : TypeId} {size n o b : Nat} {n' c : Nat} {xs vs : List Value} {k : World → Prop} (hi : H[i]? = some (own e size (.slice (some ⟨b, 0, none⟩) n' c) n xs)) (hle : o + vs.length ≤ xs.length) (h1 : vs.all isOne = true)
    (hk : ∀ w', St w0 S w' (H.set i (own e size (.slice (some ⟨b, 0, none⟩) n' c) n (over xs o vs))) → k w') : StC w b o vs k := by
  obtain ⟨h2, ⟨h3, _⟩ | ⟨g, cap, cur, h3, h4, h5, h6, h7, h8, h9⟩⟩ := h.get i hi
  · cases h3
  cases h3
  have hcl : n * size ≤ cur.size := by rw [h8]; exact Nat.mul_le_mul_right _ h6
  have hb : Blk w b e cur.toList := by simpa [Blk] using h5
  have hx : xs.length = n * size := h2
  refine ⟨e, cur.toList, hb, by simp; omega, by simpa using h1, hk _ (h.upd i hi (T := (· = b)) (Ext.set (S := (· = b)) (b := b) rfl e _) (fun q hq => by simp [own, Value.ownBlock, hq]) (own_local _ _ _ _ _) ?_ fun q hq => .inl hq)⟩
  have hov : (over cur.toList o vs).length = cur.size := by
    have hl : o + vs.length ≤ cur.size := by omega
    simp only [over, List.length_append, List.length_take, List.length_drop, Array.length_toList]
    omega
  refine ⟨by simp only [over, List.length_append, List.length_take, List.length_drop]; omega, .inr ⟨b, c, (over cur.toList o vs).toArray, rfl, h4, ?_, h6, h7, by rw [List.size_toArray, hov, h8], ?_⟩⟩
  · have := setBlk_blk (t := e) (cs := over cur.toList o vs) hb.lt
    exact this
  · rw [List.toList_toArray, over_take (by omega) (by simpa using hcl), h9]
end
end Go.Proofs.YtcioicoedmmkhaaGreatDoor.Ev

namespace Go.Proofs.YtcioicoedmmkhaaGreatDoor.Ev
open Go
section
variable {P : Program} {τ : Tab} {N d : Nat} {σ : Slots} {w : World} {ops rest : List Oper} {x y : Operand} {v : Value} {ty : TypeId} {pos : String} {after : Array Edge} {Q : Slots → World → Prop}
end

end Go.Proofs.YtcioicoedmmkhaaGreatDoor.Ev

namespace Go.Proofs.YtcioicoedmmkhaaGreatDoor.Ev
open Go

def fl (ops : Array Oper) (late : List Nat) (i : Nat) : Bool := match ops[i]? with
  | some o => floats late i o.op
  | none => false

section
variable {P : Program} {τ : Tab} {N : Nat}

end

end Go.Proofs.YtcioicoedmmkhaaGreatDoor.Ev

namespace Go.Proofs.YtcioicoedmmkhaaGreatDoor.Ev
open Go

section
variable {P : Program} {τ : Tab} {N : Nat} {σ σ' : Slots} {w : World} {Q : EQ}

end
end Go.Proofs.YtcioicoedmmkhaaGreatDoor.Ev
namespace Go.Proofs.YtcioicoedmmkhaaGreatDoor.Ev
open Go
end Go.Proofs.YtcioicoedmmkhaaGreatDoor.Ev

namespace Go.Proofs.YtcioicoedmmkhaaGreatDoor.Ev
open Go Go.WideShapes

theorem apart_symm' : ∀ a b : Ent, (∀ x ∈ a.foot, x ∉ b.foot) → ∀ x ∈ b.foot, x ∉ a.foot := fun _ _ h x hx hy => h x hy hx

section
variable {w0 w w' w'' : World} {S T : Nat → Prop} {H H' H'' A B : List Ent}

theorem St.sel (h : St w0 S w H) (is : List Nat) (hn : is.Nodup) : St w0 S w (is.filterMap fun i => H[i]?) := by
  have mem : ∀ e ∈ is.filterMap (fun i => H[i]?), e ∈ H := fun e he => by
    obtain ⟨i, _, hi⟩ := List.mem_filterMap.1 he
    exact List.mem_of_getElem? hi
  refine ⟨h.ext, fun e he => h.each e (mem e he), fun e he => h.loc e (mem e he), fun e he => h.may e (mem e he), ?_⟩
  rw [List.pairwise_filterMap]
  refine List.Pairwise.imp ?_ hn
  intro i j hij e he f hf
  exact pairwise_at apart_symm' h.apart he hf hij

theorem St.ne (h : St w0 S w H) (i j : Nat) {b c : Nat} {t u : TypeId} {cs ds : List Value} (hi : H[i]? = some (Ev.blk b t cs)) (hj : H[j]? = some (Ev.blk c u ds)) (hne : i ≠ j) : b ≠ c := by
  have := pairwise_at apart_symm' h.apart hi hj hne b (by simp [Ev.blk])
  simpa [Ev.blk] using this

theorem St.laX (h : St w0 S w H) (i : Nat) {b o n : Nat} {t : TypeId} {cs : List Value} {k : Value → Prop} (hi : H[i]? = some (Ev.blk b t cs)) (hn : Nat.ble (o + n) cs.length = true) (hk : k (.agg ((cs.drop o).take n).toArray)) : LdA w b o n k := by
  have hle := Nat.le_of_ble_eq_true hn
  have hl : ((cs.drop o).take n).length = n := by rw [List.length_take, List.length_drop]; omega
  exact h.la i hi hl (by rw [hl]) hk

theorem St.laXF (h : St w0 S w H) (i : Nat) {b o n : Nat} {t : TypeId} {cs : List Value} {k : Value → Prop} (hi : H[i]? = some (Ev.blk b t cs)) (hn : Nat.ble (o + n) cs.length = true) (hT : ¬ T b) (hk : k (.agg ((cs.drop o).take n).toArray)) : LdG (Ext T w) b o n k := by
  have hle := Nat.le_of_ble_eq_true hn
  have hl : ((cs.drop o).take n).length = n := by rw [List.length_take, List.length_drop]; omega
  exact h.laF i hi hl (by rw [hl]) hT hk

end
end Go.Proofs.YtcioicoedmmkhaaGreatDoor.Ev

namespace Go.Proofs.YtcioicoedmmkhaaGreatDoor.Ev
open Go

def I64 (n : Int) : Prop := -9223372036854775808 ≤ n ∧ n ≤ 9223372036854775807
def Pr.ok : Pr → Prop
  | .int n => I64 n
  | .bool _ => True
  | .str s => s.size ≤ maxLen

section
variable {P : Program} {w : World}
theorem shp_flatFs {rec_ : TypeId → Option (List PK)} {D : Nat} {cs : List Value} (IH : ∀ (t : TypeId) (ks : List PK) (cs : List Value), rec_ t = some ks → P.cellsOf t = ks.length → Shp P w D t cs → ∃ ps : List Pr, cs = ps.map Pr.v ∧ ps.map Pr.k = ks ∧ ∀ p ∈ ps, p.ok) :
    ∀ (fs : List Field) (off : Nat) (ks : List PK), flatFs P rec_ fs off = some ks → (∀ f ∈ fs, Shp P w D f.type ((cs.drop f.offset).take (P.cellsOf f.type))) → ∃ ps : List Pr, (cs.drop off).take ks.length = ps.map Pr.v ∧ ps.map Pr.k = ks ∧ ∀ p ∈ ps, p.ok := by
  intro fs
  induction fs with
  | nil =>
    intro off ks h _
    simp only [flatFs, Option.some.injEq] at h
    subst h
    exact ⟨[], by simp, rfl, by simp⟩
  | cons f r ih =>
    intro off ks h hs
    unfold flatFs at h
    split at h
    · cases h
    · rename_i hc
      simp only [Bool.and_eq_true, bne_iff_ne, ne_eq, beq_iff_eq] at hc
      obtain ⟨⟨⟨_, rfl⟩, _⟩, _⟩ := hc
      split at h
      · cases h
      · rename_i k hk
        split at h
        · cases h
        · rename_i hcs
          simp only [Bool.and_eq_true, Bool.or_eq_true, beq_iff_eq] at hcs
          obtain ⟨ks', hr, rfl⟩ := Option.map_eq_some_iff.1 h
          obtain ⟨ps, h1, h2, h3⟩ := IH f.type k _ hk hcs.1 (hs f (by simp))
          obtain ⟨qs, h4, h5, h6⟩ := ih (f.offset + k.length) ks' hr (fun g hg => hs g (by simp [hg]))
          refine ⟨ps ++ qs, ?_, by rw [List.map_append, h2, h5], ?_⟩
          · rw [hcs.1] at h1
            rw [List.length_append, List.take_add, List.drop_drop, h1, h4, List.map_append]
          · intro p hp
            rcases List.mem_append.1 hp with hp | hp
            · exact h3 p hp
            · exact h6 p hp
theorem shp_flat : ∀ (d : Nat) (D : Nat) (t : TypeId) (ks : List PK) (cs : List Value), flatK P d t = some ks → d ≤ D → P.cellsOf t = ks.length → Shp P w D t cs → ∃ ps : List Pr, cs = ps.map Pr.v ∧ ps.map Pr.k = ks ∧ ∀ p ∈ ps, p.ok := by
  intro d
  induction d with
  | zero => intro D t ks cs h; simp [flatK] at h
  | succ d ih =>
    intro D t ks cs h hD hc hs
    obtain ⟨D, rfl⟩ : ∃ D', D = D' + 1 := ⟨D - 1, by omega⟩
    unfold Shp at hs
    unfold flatK at h
    split at h
    · rename_i hu
      rw [hu] at hs
      simp only [Option.some.injEq] at h
      subst h
      obtain ⟨n, rfl, hw⟩ := hs
      refine ⟨[.int n], rfl, rfl, ?_⟩
      intro p hp
      obtain rfl := List.mem_singleton.1 hp
      have h1 : IntKind.i64.min = -9223372036854775808 := rfl
      have h2 : IntKind.i64.max = 9223372036854775807 := rfl
      simp only [Lit.wf, Bool.and_eq_true, decide_eq_true_eq] at hw
      show I64 n
      unfold I64
      omega
    · rename_i hu
      rw [hu] at hs
      simp only [Option.some.injEq] at h
      subst h
      obtain ⟨n, rfl⟩ := hs
      exact ⟨[.bool n], rfl, rfl, by intro p hp; obtain rfl := List.mem_singleton.1 hp; trivial⟩
    · rename_i hu
      rw [hu] at hs
      simp only [Option.some.injEq] at h
      subst h
      obtain ⟨n, rfl, hn⟩ := hs
      exact ⟨[.str n], rfl, rfl, by intro p hp; obtain rfl := List.mem_singleton.1 hp; exact hn⟩
    · rename_i fs hu
      rw [hu] at hs
      split at h
      · cases h
      · obtain ⟨hl, hf⟩ := hs
        obtain ⟨ps, h1, h2, h3⟩ := shp_flatFs (w := w) (D := D) (cs := cs) (fun t ks cs h hc hs => ih D t ks cs h (by omega) hc hs) fs.toList 0 ks h (fun f hf' => by
          obtain ⟨i, hi⟩ := List.mem_iff_getElem?.1 hf'
          exact hf i f (by simpa using hi))
        refine ⟨ps, ?_, h2, h3⟩
        rw [List.drop_zero, List.take_of_length_le (by omega)] at h1
        exact h1
    · cases h

theorem kinds_cons {l : List Pr} {k : PK} {ks : List PK} (h : l.map Pr.k = k :: ks) : ∃ p r, l = p :: r ∧ p.k = k ∧ r.map Pr.k = ks := by
  cases l with
  | nil => cases h
  | cons p r =>
    simp only [List.map_cons, List.cons.injEq] at h
    exact ⟨p, r, rfl, h.1, h.2⟩
theorem kinds_nil {l : List Pr} (h : l.map Pr.k = []) : l = [] := by simpa using h
theorem k_int {p : Pr} (h : p.k = .int) : ∃ n, p = .int n := by cases p <;> simp [Pr.k] at h; exact ⟨_, rfl⟩
theorem arg_flat {W : World} {t : TypeId} {fs : Array Field} {ks : List PK} {v : Value} (hu : P.underlying t = some (.struct fs)) (hk : flatK P 10 t = some ks) (hc : P.cellsOf t = ks.length) (h : ArgOk P W t v) : ∃ ps : List Pr, v = .agg (ps.map Pr.v).toArray ∧ ps.map Pr.k = ks ∧ ∀ p ∈ ps, p.ok := by
  obtain ⟨⟨base, h1⟩, h2⟩ := h
  obtain ⟨cs, rfl, _⟩ := Go.WideShapes.okWide_struct hu h1
  obtain ⟨d, hd⟩ : ∃ d, 10 ≤ d := ⟨10, Nat.le_refl _⟩
  obtain ⟨ps, h3, h4, h5⟩ := shp_flat 10 d t ks cs.toList hk hd hc (h2 d)
  refine ⟨ps, ?_, h4, h5⟩
  rw [← h3]
end
end Go.Proofs.YtcioicoedmmkhaaGreatDoor.Ev

namespace Go.Proofs.YtcioicoedmmkhaaGreatDoor
open Go Ev

structure PktS where
  proto : Int
  sa : Int
  sp : Int
  da : Int
  dp : Int
  flags : Int
deriving DecidableEq
def encPkt (p : PktS) : List Value := [.int .i64 p.proto, .int .i64 p.sa, .int .i64 p.sp, .int .i64 p.da, .int .i64 p.dp, .int .i64 p.flags]
def noPkt : PktS := ⟨0, 0, 0, 0, 0, 0⟩
def endB (a p : Int) : Bool := decide (0 ≤ a ∧ a ≤ 1048576 ∧ 1 ≤ p ∧ p ≤ 65535)
def PktS.bad (p : PktS) : Bool := decide ((p.proto ≠ 1 ∧ p.proto ≠ 2) ∨ endB p.sa p.sp = false ∨ endB p.da p.dp = false ∨ p.flags < 0 ∨ p.flags > 15)
def PktS.err (p : PktS) : Nat := if p.bad = true then 2 else if p.proto = 1 ∧ p.flags ≠ 0 then 3 else 0
theorem PktS.err_code (p : PktS) : p.err < 12 := by
  unfold PktS.err
  split
  · omega
  · split <;> omega

theorem end_ok (a p : Int) (w : World) : CallC Tryz.prog 41 #[.agg #[.int .i64 a, .int .i64 p]] w fun v w' => v = .bool (endB a p) ∧ Ext No w w' := by
  refine fn_intro tabOk Tryz.func41 (by kernel_rfl) rfl Tryz.ntmps41 (Nat.le_of_ble_eq_true rfl) ?_
  have hS := St.start w No
  (conv => whnf)
  refine hS.new (fun b w' hb hS => ?_)
  replace hS : St w No w' [blk b 24 [.int .i64 a, .int .i64 p]] := hS
  repeat' ((conv => whnf); first | refine RetC.mk ?_ | refine NzC.mk (by decide) ?_ | refine RngC.mk (by omega) (by omega) ?_ | refine IdxC.mk (by omega) (by omega) ?_ | refine hS.ld 0 rfl rfl ?_ | refine hS.laX 0 rfl rfl ?_ | refine brD (fun _ => ?_) (fun _ => ?_) | refine brND (fun _ => ?_) (fun _ => ?_) | refine brN (fun _ => ?_) (fun _ => ?_) | refine brI (fun _ => ?_) (fun _ => ?_))
  all_goals refine ⟨congrArg Value.bool (Bool.eq_iff_iff.2 ?_), hS.ext⟩
  all_goals simp [endB]
  all_goals omega
theorem isEnd_ok (a p : Int) (w : World) : CallC Tryz.prog 40 #[.agg #[.int .i64 a, .int .i64 p]] w fun v w' => v = .bool (endB a p) ∧ Ext No w w' := by
  refine fn_intro tabOk Tryz.func40 (by kernel_rfl) rfl Tryz.ntmps40 (Nat.le_of_ble_eq_true rfl) ?_
  have hS := St.start w No
  (conv => whnf)
  refine hS.new (fun b w' hb hS => ?_)
  replace hS : St w No w' [blk b 24 [.int .i64 a, .int .i64 p]] := hS
  repeat' ((conv => whnf); first | refine RetC.mk ?_ | refine NzC.mk (by decide) ?_ | refine RngC.mk (by omega) (by omega) ?_ | refine IdxC.mk (by omega) (by omega) ?_ | refine hS.ld 0 rfl rfl ?_ | refine hS.laX 0 rfl rfl ?_ | refine brD (fun _ => ?_) (fun _ => ?_) | refine brND (fun _ => ?_) (fun _ => ?_) | refine brN (fun _ => ?_) (fun _ => ?_) | refine brI (fun _ => ?_) (fun _ => ?_))
  all_goals refine ⟨congrArg Value.bool (Bool.eq_iff_iff.2 ?_), hS.ext⟩
  all_goals simp [endB]
  all_goals omega
theorem pcheck_ok {E : Nat → Addr} {n : Nat} (p : PktS) (w : World) (hE : Errs w E n [2, 3]) : CallC Tryz.prog 16 #[.agg (encPkt p).toArray] w fun v w' => v = errV E p.err ∧ Ext No w w' := by
  have hbad : p.bad = decide ((p.proto ≠ 1 ∧ p.proto ≠ 2) ∨ endB p.sa p.sp = false ∨ endB p.da p.dp = false ∨ p.flags < 0 ∨ p.flags > 15) := rfl
  refine fn_intro tabOk Tryz.func16 (by kernel_rfl) rfl Tryz.ntmps16 (Nat.le_of_ble_eq_true rfl) ?_
  have hS := St.start w No
  (conv => whnf)
  refine hS.new (fun b w' hb hS => ?_)
  replace hS : St w No w' [blk b 26 (encPkt p)] := hS
  unfold PktS.err
  generalize hs : endB p.sa p.sp = s1 at hbad
  generalize hd : endB p.da p.dp = d1 at hbad
  repeat' ((conv => whnf); first | refine RetC.mk ?_ | refine NzC.mk (by decide) ?_ | refine RngC.mk (by omega) (by omega) ?_ | refine IdxC.mk (by omega) (by omega) ?_ | refine hS.ld 0 rfl rfl ?_ | refine hS.laX 0 rfl rfl ?_ | (refine (end_ok p.sa p.sp _).mono ?_; rintro v w' ⟨rfl, hx'⟩; replace hS := hS.no hx'; clear hx'; rw [hs]) | (refine (end_ok p.da p.dp _).mono ?_; rintro v w' ⟨rfl, hx'⟩; replace hS := hS.no hx'; clear hx'; rw [hd]) | refine hS.ldr (hE.at_ 2 rfl) id ?_ | refine hS.ldrF (hE.at_ 2 rfl) id id ?_ | refine hS.ldr (hE.at_ 3 rfl) id ?_ | refine hS.ldrF (hE.at_ 3 rfl) id id ?_ | refine brD (fun _ => ?_) (fun _ => ?_) | refine brND (fun _ => ?_) (fun _ => ?_) | refine brN (fun _ => ?_) (fun _ => ?_) | refine brI (fun _ => ?_) (fun _ => ?_))
  all_goals refine ⟨?_, hS.ext⟩
  all_goals clear hS
  all_goals rw [hbad]
  all_goals clear hbad hs hd
  all_goals (repeat' split) <;> first | rfl | (exfalso; simp_all; done) | (exfalso; simp_all; omega)
theorem perror_ok (p : PktS) (w : World) : CallC Tryz.prog 15 #[.agg (encPkt p).toArray] w fun v w' => v = .int .i64 (p.err : Nat) ∧ Ext No w w' := by
  have hbad : p.bad = decide ((p.proto ≠ 1 ∧ p.proto ≠ 2) ∨ endB p.sa p.sp = false ∨ endB p.da p.dp = false ∨ p.flags < 0 ∨ p.flags > 15) := rfl
  refine fn_intro tabOk Tryz.func15 (by kernel_rfl) rfl Tryz.ntmps15 (Nat.le_of_ble_eq_true rfl) ?_
  have hS := St.start w No
  (conv => whnf)
  refine hS.new (fun b w' hb hS => ?_)
  replace hS : St w No w' [blk b 26 (encPkt p)] := hS
  unfold PktS.err
  generalize hs : endB p.sa p.sp = s1 at hbad
  generalize hd : endB p.da p.dp = d1 at hbad
  repeat' ((conv => whnf); first | refine RetC.mk ?_ | refine NzC.mk (by decide) ?_ | refine RngC.mk (by omega) (by omega) ?_ | refine IdxC.mk (by omega) (by omega) ?_ | refine hS.ld 0 rfl rfl ?_ | refine hS.laX 0 rfl rfl ?_ | (refine (isEnd_ok p.sa p.sp _).mono ?_; rintro v w' ⟨rfl, hx'⟩; replace hS := hS.no hx'; clear hx'; rw [hs]) | (refine (isEnd_ok p.da p.dp _).mono ?_; rintro v w' ⟨rfl, hx'⟩; replace hS := hS.no hx'; clear hx'; rw [hd]) | refine brD (fun _ => ?_) (fun _ => ?_) | refine brND (fun _ => ?_) (fun _ => ?_) | refine brN (fun _ => ?_) (fun _ => ?_) | refine brI (fun _ => ?_) (fun _ => ?_))
  all_goals refine ⟨?_, hS.ext⟩
  all_goals clear hS
  all_goals rw [hbad]
  all_goals clear hbad hs hd
  all_goals (repeat' split) <;> first | rfl | (exfalso; simp_all; done) | (exfalso; simp_all; omega)
end Go.Proofs.YtcioicoedmmkhaaGreatDoor

namespace Go.Proofs.YtcioicoedmmkhaaGreatDoor
open Go Ev

structure RuleS where
  allow : Bool
  out : Bool
  proto : Int
  low : Int
  top : Int
deriving DecidableEq
def RuleS.bad (r : RuleS) : Bool := decide (r.proto < 0 ∨ r.proto > 2 ∨ r.low < 1 ∨ r.low > r.top ∨ r.top > 65535)
def GoodR (l : List RuleS) : Prop := l.length ≤ 20 ∧ ∀ r ∈ l, r.bad = false
instance (l : List RuleS) : Decidable (GoodR l) := by unfold GoodR; infer_instance
section
variable {w : World} {G : RuleS → Prop} {a b : Option Addr} {n m c d : Nat} {xs ys : List RuleS}
end
end Go.Proofs.YtcioicoedmmkhaaGreatDoor

namespace Go.Proofs.YtcioicoedmmkhaaGreatDoor.Ev
open Go

def bs (l : List UInt8) : ByteArray := ⟨l.toArray⟩
theorem bs_inj {a b : List UInt8} : bs a = bs b ↔ a = b := by
  constructor
  · intro h
    have := congrArg (fun s => s.data.toList) h
    simpa [bs] using this
  · rintro rfl; rfl
theorem bs_size (l : List UInt8) : (bs l).size = l.length := by simp [bs, ByteArray.size]
theorem bs_append (a b : List UInt8) : bs a ++ bs b = bs (a ++ b) := by
  apply ByteArray.ext
  simp [bs, ByteArray.data_append]
theorem bs_extract (l : List UInt8) (a b : Nat) : (bs l).extract a b = bs ((l.drop a).take (b - a)) := ByteArray.extract_mk l a b
def encU (x : UInt8) : List Value := [.int .u8 (x.toNat : Int)]
theorem codU : Codec 1 encU := ⟨fun _ => rfl, fun _ => rfl, by decide⟩

section
variable {P : Program} {k : Value → Prop} {l : List UInt8} {t : TypeId}
theorem idxS {kd : IntKind} {i : Int} {j : Nat} {x : UInt8} (hu : P.underlying t = some .string) (hi : i = (j : Int)) (hx : l[j]? = some x) (hk : k (.int .u8 (x.toNat : Int))) : PureC P (Instr.index t (.string (bs l)) (.int kd i)) k := by
  subst hi
  refine PureC.of (fun w => ?_) hk
  have lt := (List.getElem?_eq_some_iff.1 hx).1
  rw [run_index_string w t (bs l) kd j hu, dif_pos ⟨by omega, by rw [bs_size]; omega⟩]
  congr 1
  have : (bs l)[j]? = some x := by
    rw [ByteArray.getElem?_lt' _ _ (by rw [bs_size]; exact lt)]
    show some ((bs l).data[j]) = _
    rw [← hx, List.getElem?_eq_getElem lt]
    simp [bs]
  have h2 : (bs l)[j]'(by rw [bs_size]; exact lt) = x := by
    rw [ByteArray.getElem?_lt' _ _ (by rw [bs_size]; exact lt)] at this
    exact Option.some.inj this
  simp [h2]
theorem slc_at (hu : P.underlying t = some .string) (x : Value) (lo hi : Option Value) (w : World) : (Instr.sliceAt t x lo hi none).run P w = (Instr.slice t x lo hi none).run P w := by
  unfold Instr.sliceAt
  rw [Sem.run_bind, run_underlying hu, Result.andThen_ok]
theorem slcS {q q' : IntKind} {i j : Int} {a b : Nat} {r : List UInt8} (hu : P.underlying t = some .string) (hi : i = (a : Int)) (hj : j = (b : Int)) (hab : a ≤ b) (hb : b ≤ l.length) (hr : (l.drop a).take (b - a) = r) (hk : k (.string (bs r))) : PureC P (Instr.sliceAt t (.string (bs l)) (some (.int q i)) (some (.int q' j)) none) k := by
  subst hi hj hr
  refine PureC.of (fun w => ?_) hk
  rw [slc_at hu, run_slice_string w t (bs l) q q' a b hu (by omega) (by omega) (by rw [bs_size]; omega), bs_extract]
  rfl
theorem addS {a b : List UInt8} (h : a.length + b.length ≤ 1000000) (hk : k (.string (bs (a ++ b)))) : PureC P (Go.binOp .add t (.string (bs a)) (.string (bs b))) k :=
  PureC.of (fun w => by
    rw [show Go.binOp .add t (.string (bs a)) (.string (bs b)) = Op.stringOp .add (bs a) (bs b) from rfl, run_string_add_sum w _ _ (by rw [bs_size, bs_size]; omega), bs_append]) hk
theorem eqS2 {a b : List UInt8} (hk : k (.bool (decide (a = b)))) : PureC P (Go.binOp .eql t (.string (bs a)) (.string (bs b))) k := eqStr (by
  have : decide (bs a = bs b) = decide (a = b) := by simp only [bs_inj]
  rw [this]; exact hk)
theorem neS2 {a b : List UInt8} (hk : k (.bool (!decide (a = b)))) : PureC P (Go.binOp .neq t (.string (bs a)) (.string (bs b))) k := neStr (by
  have : decide (bs a = bs b) = decide (a = b) := by simp only [bs_inj]
  rw [this]; exact hk)
theorem convI {s d : TypeId} {q : IntKind} {n m : Int} {kd : IntKind} (hs : (P.underlying s).isSome = true) (hd : P.underlying d = some (.int kd)) (hw : kd.wrap n = m) {w : World} {kk : Value → World → Prop} (hk : kk (.int kd m) w) : RunC P (Go.convert s d (.int q n)) w kk := by
  have hk2 : P.intKind d = kd := by unfold Program.intKind; rw [hd]
  exact ⟨_, _, by rw [run_convert_int w s d q n hs (by rw [hk2]; exact hd), hk2, hw], hk⟩
theorem shrC {kd yk : IntKind} {a : Int} {n : Nat} {y : Int} (hy : y = (n : Int)) (hn : n ≤ kd.bits) (hk : k (.int kd (a / 2 ^ n))) : PureC P (Go.binOp .shr t (.int kd a) (.int yk y)) k := by
  subst hy
  refine PureC.of (fun w => ?_) hk
  show (Op.shift .shr kd a yk n).run P w = _
  unfold Op.shift
  rw [if_neg (by omega)]
  simp only [Int.toNat_natCast, Nat.min_eq_left hn]
  rw [show ((2 : Int) ^ n) = ((2 ^ n : Nat) : Int) by simp, Int.fdiv_eq_ediv_of_nonneg _ (by exact Int.natCast_nonneg _)]
  rfl
theorem shrN {kd yk : IntKind} {a n : Nat} {y : Int} (hy : y = (n : Int)) (hn : n ≤ kd.bits) (hk : k (.int kd ((a / 2 ^ n : Nat) : Int))) : PureC P (Go.binOp .shr t (.int kd (a : Int)) (.int yk y)) k :=
  shrC hy hn (by
    have : ((a : Int) / 2 ^ n) = ((a / 2 ^ n : Nat) : Int) := by simp
    rw [this]; exact hk)
theorem shlC {kd yk : IntKind} {a : Int} {n : Nat} {y m : Int} (hy : y = (n : Int)) (hn : n ≤ kd.bits) (hw : kd.wrap (a * 2 ^ n) = m) (hk : k (.int kd m)) : PureC P (Go.binOp .shl t (.int kd a) (.int yk y)) k := by
  subst hy hw
  refine PureC.of (fun w => ?_) hk
  show (Op.shift .shl kd a yk n).run P w = _
  unfold Op.shift
  rw [if_neg (by omega)]
  simp only [Int.toNat_natCast, Nat.min_eq_left hn]
  rfl
theorem orC64 {a b : Nat} (ha : a < 2 ^ 63) (hb : b < 2 ^ 63) (hk : k (.int .i64 ((a ||| b : Nat) : Int))) : PureC P (Go.binOp .or t (.int .i64 (a : Int)) (.int .i64 (b : Int))) k :=
  PureC.of (fun w => by
    have hx : a ||| b < 2 ^ 63 := Nat.or_lt_two_pow ha hb
    rw [show Go.binOp .or t (.int .i64 (a : Int)) (.int .i64 (b : Int)) = Op.intBits .or .i64 (a : Int) (b : Int) by simp [Go.binOp]]
    show (pure (Value.int .i64 (IntKind.i64.wrap ((BitVec.ofInt 64 (a : Int) ||| BitVec.ofInt 64 (b : Int)).toNat : Int))) : Sem Value).run P w = _
    rw [BitVec.toNat_or, BitVec.ofInt_natCast, BitVec.ofInt_natCast, BitVec.toNat_ofNat, BitVec.toNat_ofNat, Nat.mod_eq_of_lt (by omega), Nat.mod_eq_of_lt (by omega), IntKind.wrap_i64]
    rw [show ((((a ||| b : Nat) : Int)) + 9223372036854775808) % 18446744073709551616 - 9223372036854775808 = ((a ||| b : Nat) : Int) by omega]
    rfl) hk
theorem strC {w : World} {src dst e : TypeId} {b o n c : Nat} {kk : Value → World → Prop} (hs : P.underlying src = some (.slice e)) (he : P.underlying e = some (.int .u8)) (hd : P.underlying dst = some .string) (hc : CellsAt w b o (l.flatMap encU)) (hl : l.length = n) (hk : kk (.string (bs l)) w) :
    RunC P (Go.convert src dst (.slice (some ⟨b, o, none⟩) n c)) w kk := by
  refine ⟨_, _, run_convert_bytes_arg w src e hs he b o n c (l.map fun x => (x.toNat : Int)) (by simpa using hl) (fun i hi => ?_) dst hd, ?_⟩
  · have hlt : i < l.length := by omega
    have := hc i (.int .u8 (l[i].toNat : Int)) (by
      have := flat_get codU (j := 0) (List.getElem?_eq_getElem hlt) rfl
      simpa [encU] using this)
    rw [this]
    simp [List.getD, hlt]
  · have : strOfNums (l.map fun x => (x.toNat : Int)) = bs l := by
      unfold strOfNums bs
      congr 2
      rw [List.map_map]
      conv => rhs; rw [← List.map_id l]
      apply List.map_congr_left
      intro x _
      simp
    rw [this]
    exact hk
theorem made_rep (v : Value) (n : Nat) : (madeCells #[v] n).toList = List.replicate n v := by
  unfold madeCells
  apply List.ext_getElem?
  intro i
  by_cases h : i < n
  · simp [h, Nat.mod_one]
  · simp [h]
end
end Go.Proofs.YtcioicoedmmkhaaGreatDoor.Ev
namespace Go.Proofs.YtcioicoedmmkhaaGreatDoor
open Go Ev
theorem Ev.St.ownX {w0 w : World} {S : Nat → Prop} {H : List Ent} (h : St w0 S w H) (i : Nat) {e : TypeId} {size n o b : Nat} {n' c : Nat} {xs vs : List Value} {k : World → Prop} (hi : H[i]? = some (own e size (.slice (some ⟨b, 0, none⟩) n' c) n xs)) (hle : o + vs.length ≤ xs.length) (h1 : vs.all isOne = true)
    (hk : ∀ w', Ext (· = b) w w' → St w0 S w' (H.set i (own e size (.slice (some ⟨b, 0, none⟩) n' c) n (over xs o vs))) → k w') : StC w b o vs k := by
  obtain ⟨t, cs, hb, hl, ho, _⟩ := (h.ownSt i hi hle h1 (k := fun _ => True) fun _ _ => trivial).ex
  have h2 := h.ownSt i hi hle h1 (k := fun w' => Ext (· = b) w w' → k w') fun w' hS hx => hk w' hx hS
  obtain ⟨t', cs', hb', hl', ho', hk'⟩ := h2.ex
  exact ⟨t', cs', hb', hl', ho', hk' (Ext.set (S := (· = b)) (b := b) rfl t' _)⟩

theorem Ev.St.mkSlice {P : Program} {α : Type} {w0 w : World} {S : Nat → Prop} {H : List Ent} (h : St w0 S w H) {t e : TypeId} {sz bytes n : Nat} {z : Value} {enc : α → List Value} {xs : List α} {kl kc : IntKind} {k : Value → World → Prop}
    (hu : P.underlying t = some (.slice e)) (hs : (P.info? e).map (fun i => (i.size, i.bytes)) = some (sz, bytes)) (hz : (P.info? e).bind (·.zero) = some z) (h1 : n * sz ≤ 16777216) (h2 : bytes * n ≤ 281474976710656) (h3 : n ≤ maxLen)
    (hl : xs.length = n) (hcs : (madeCells z.cells (n * sz)).toList = xs.flatMap enc)
    (hk : ∀ b w', w0.heap.size ≤ b → St w0 S w' (H ++ [ownL e sz enc (.slice (some ⟨b, 0, none⟩) n n) xs]) → k (.slice (some ⟨b, 0, none⟩) n n) w') : RunC P (Instr.makeSlice t (.int kl (n : Int)) (.int kc (n : Int))) w k := by
  obtain ⟨ie, e1, e2⟩ := Option.map_eq_some_iff.1 hs
  obtain ⟨ie', e3, e4⟩ := Option.bind_eq_some_iff.1 hz
  obtain rfl := Option.some.inj (e1.symm.trans e3)
  simp only [Prod.mk.injEq] at e2
  obtain ⟨w', hr, ho, hg⟩ := run_makeSlice_full (P := P) w 0 t e ie z sz hu e1 e4 e2.1 kl kc n h1 (by rw [e2.2]; exact h2) h3 (Nat.zero_le _)
  refine ⟨_, _, hr, hk _ _ h.ext.size (h.made (Ext.of_grown hg |>.mono fun _ hb => by cases hb) ownL_local ?_ ?_)⟩
  · unfold ownL own
    rw [hl, ← hcs]
    exact ho
  · intro b hb
    obtain rfl : b = w.heap.size := by simpa [ownL, own, Value.ownBlock] using hb
    refine ⟨Nat.le_refl _, ?_⟩
    obtain ⟨_, ⟨h6, _⟩ | ⟨g, cap, cur, h6, _, h7, _⟩⟩ := ho
    · cases h6
    · cases h6
      exact (Array.getElem?_eq_some_iff.1 h7).1
theorem Ev.St.setL {α : Type} {sz : Nat} {enc : α → List Value} {w0 w : World} {S : Nat → Prop} {H : List Ent} (h : St w0 S w H) (C : Codec sz enc) (i : Nat) {e : TypeId} {b n c o k : Nat} {xs : List α} {d x : α} {vs : List Value} {K : World → Prop} (hi : H[i]? = some (ownL e sz enc (.slice (some ⟨b, 0, none⟩) n c) xs)) (hd : xs[k]? = some d) (ho : o = k * sz) (hv : vs = enc x)
    (hk : ∀ w', Ext (· = b) w w' → St w0 S w' (H.set i (ownL e sz enc (.slice (some ⟨b, 0, none⟩) n c) (xs.set k x))) → K w') : StC w b o vs K := by
  subst ho
  subst hv
  have hlt := (List.getElem?_eq_some_iff.1 hd).1
  have hle : k * sz + sz ≤ xs.length * sz := by rw [← Nat.succ_mul]; exact Nat.mul_le_mul_right _ hlt
  refine h.ownX i hi (by rw [flat_len C, C.len]; exact hle) (C.one x) (fun w' hx hS => hk w' hx ?_)
  have e := flat_over C (k := k) (j := 0) (y := x) (vs := enc x) hd (by rw [C.len]; omega) (over_whole (by rw [C.len, C.len]))
  rw [Nat.add_zero] at e
  rw [e] at hS
  unfold ownL
  rw [List.length_set]
  exact hS
end Go.Proofs.YtcioicoedmmkhaaGreatDoor

namespace Go.Proofs.YtcioicoedmmkhaaGreatDoor.Ev
open Go Go.WideShapes

section
variable {P : Program} {α : Type} {sz : Nat} {enc : α → List Value} {w0 w w' : World} {S : Nat → Prop} {H : List Ent} {G : α → Prop} {a : Option Addr} {n c : Nat} {xs : List α}

end

end Go.Proofs.YtcioicoedmmkhaaGreatDoor.Ev

namespace Go.Proofs.YtcioicoedmmkhaaGreatDoor
open Go Ev

section
variable {w : World} {G G' : RuleS → Prop} {a b : Option Addr} {n m c d : Nat} {xs ys : List RuleS}
end
end Go.Proofs.YtcioicoedmmkhaaGreatDoor

namespace Go.Proofs.YtcioicoedmmkhaaGreatDoor
open Go Ev

def numK (n m i : Nat) : List UInt8 := (List.range m).map fun j => if m ≤ j + i then UInt8.ofNat (n / 256 ^ (m - 1 - j)) else 0
def numB (n m : Nat) : List UInt8 := (List.range m).map fun j => UInt8.ofNat (n / 256 ^ (m - 1 - j))
theorem numK_len (n m i : Nat) : (numK n m i).length = m := by simp [numK]
theorem numB_len (n m : Nat) : (numB n m).length = m := by simp [numB]
theorem numK_zero (n m : Nat) : numK n m 0 = List.replicate m 0 := by
  apply List.ext_getElem?
  intro j
  by_cases h : j < m
  · have : ¬ m ≤ j := by omega
    simp [numK, h, this]
  · simp [numK, h]
theorem numK_full (n m : Nat) : numK n m m = numB n m := by
  unfold numK numB
  apply List.map_congr_left
  intro j _
  rw [if_pos (by omega)]
theorem numK_at {n m i j : Nat} (h : j < m) : (numK n m i)[j]? = some (if m ≤ j + i then UInt8.ofNat (n / 256 ^ (m - 1 - j)) else 0) := by simp [numK, h]
theorem numK_set {n m i : Nat} (h : i < m) : (numK n m i).set (m - 1 - i) (UInt8.ofNat (n / 256 ^ i)) = numK n m (i + 1) := by
  apply List.ext_getElem?
  intro j
  rw [List.getElem?_set]
  by_cases e : m - 1 - i = j
  · subst e
    rw [if_pos rfl, if_pos (by rw [numK_len]; omega), numK_at (by omega), if_pos (by omega), show m - 1 - (m - 1 - i) = i by omega]
  · rw [if_neg e]
    by_cases hj : j < m
    · rw [numK_at hj, numK_at hj]
      by_cases h1 : m ≤ j + i
      · rw [if_pos h1, if_pos (by omega)]
      · rw [if_neg h1, if_neg (by omega)]
    · rw [List.getElem?_eq_none (by rw [numK_len]; omega), List.getElem?_eq_none (by rw [numK_len]; omega)]
theorem byte_of (q : Nat) : ((UInt8.ofNat q).toNat : Int) = (q : Int) % 256 := by
  rw [UInt8.toNat_ofNat']
  omega

theorem own_cells {α : Type} {w : World} {sz n c g : Nat} {e : TypeId} {enc : α → List Value} (C : Codec sz enc) {xs : List α} (h : (ownL e sz enc (.slice (some ⟨g, 0, none⟩) n c) xs).holds w) : CellsAt w g 0 (xs.flatMap enc) := by
  obtain ⟨_, ⟨h1, _⟩ | ⟨g', cap, cur, h1, h2, h3, h4, h5, h6, h7⟩⟩ := h
  · cases h1
  · cases h1
    intro j v hj
    have hlt := (List.getElem?_eq_some_iff.1 hj).1
    rw [flat_len C] at hlt
    rw [← h7, List.getElem?_take_of_lt (by omega)] at hj
    simp only [World.cell?, h3, Nat.zero_add]
    simpa using hj
theorem rep_flat : ∀ m : Nat, List.replicate m (Value.int .u8 0) = (List.replicate m (0 : UInt8)).flatMap encU
  | 0 => rfl
  | m + 1 => by rw [List.replicate_succ, List.replicate_succ, List.flatMap_cons, ← rep_flat m]; rfl
theorem shr_byte (n i : Nat) : IntKind.u8.wrap ((n : Int) / 2 ^ (8 * i)) = ((UInt8.ofNat (n / 256 ^ i)).toNat : Int) := by
  rw [IntKind.wrap_u8', byte_of, Int.pow_mul]
  have : ((2 : Int) ^ 8) ^ i = ((256 ^ i : Nat) : Int) := by simp
  rw [this, ← Int.natCast_ediv]
theorem number_ok (n m : Nat) (hm : m ≤ 7) (_hn : n < 9223372036854775808) (w : World) :
    CallC Tryz.prog 39 #[.int .i64 (n : Int), .int .i64 (m : Int)] w fun v w' => v = .string (bs (numB n m)) ∧ Ext No w w' := by
  refine fn_intro tabOk Tryz.func39 (by kernel_rfl) rfl Tryz.ntmps39 (Nat.le_of_ble_eq_true rfl) ?_
  have hS := St.start w No
  (conv => whnf)
  refine hS.mkSlice (n := m) Tryz.underlying103 (sz := 1) (bytes := 1) (by kernel_rfl) (z := .int .u8 0) (by kernel_rfl) (by omega) (by omega) (by unfold maxLen; omega) (enc := encU) (xs := numK n m 0) (numK_len _ _ _) (by rw [numK_zero, show (Value.int .u8 0).cells = #[.int .u8 0] from rfl, made_rep, Nat.mul_one]; exact rep_flat m) (fun g w' hg hS => ?_)
  (conv => whnf)
  refine loopR tabOk (fun σ w' q => ∃ i : Nat, σ = [(10, .int .i64 i), (9, .int .i64 m), (5, .slice (some ⟨g, 0, none⟩) m m), (1, .int .i64 m), (0, .int .i64 n)] ∧ q = m - i ∧ i ≤ m ∧ St w No w' [ownL 5 1 encU (.slice (some ⟨g, 0, none⟩) m m) (numK n m i)])
    (σ' := [(10, .int .i64 ((0 : Nat) : Int)), (9, .int .i64 m), (5, .slice (some ⟨g, 0, none⟩) m m), (1, .int .i64 m), (0, .int .i64 n)]) (n := m) ⟨rfl, rfl, rfl, rfl, rfl, trivial⟩ ⟨0, rfl, rfl, Nat.zero_le _, hS⟩ ?_
  clear hS
  rintro _ w1 q ⟨i, rfl, rfl, hi, hS⟩
  (conv => whnf)
  refine brD (fun h3 => ?_) (fun h3 => ?_)
  · have hi2 : i < m := by omega
    repeat' ((conv => whnf); first | refine RetC.mk ?_ | refine NzC.mk (by decide) ?_ | refine RngC.mk (by omega) (by omega) ?_ | refine IdxC.mk (by omega) (by omega) ?_ | refine RngC.mk (by omega) (by omega) ?_ | refine brD (fun _ => ?_) (fun _ => ?_) | refine brND (fun _ => ?_) (fun _ => ?_) | refine brN (fun _ => ?_) (fun _ => ?_) | refine brI (fun _ => ?_) (fun _ => ?_))
    refine shrC (n := 8 * i) (by omega) (by show 8 * i ≤ 64; omega) ?_
    (conv => whnf)
    refine convI (kd := .u8) (by kernel_rfl) Tryz.underlying5 (shr_byte n i) ?_
    (conv => whnf)
    refine IdxC.mk (by omega) (by omega) ?_
    (conv => whnf)
    refine hS.setL codU 0 (k := m - 1 - i) (x := UInt8.ofNat (n / 256 ^ i)) rfl (numK_at (by omega)) (by omega) rfl (fun w' _ hS => ?_)
    rw [numK_set hi2] at hS
    (conv => whnf)
    refine RngC.mk (by omega) (by omega) ?_
    (conv => whnf)
    refine LoopE.mk ⟨_, [(10, .int .i64 ((i + 1 : Nat) : Int)), (9, _), (5, _), (1, _), (0, _)], ?_, ⟨rfl, rfl, rfl, rfl, rfl, trivial⟩, ⟨i + 1, rfl, rfl, by omega, hS⟩⟩
    omega
  · obtain rfl : i = m := by omega
    rw [numK_full] at hS
    obtain ⟨_, _, h0⟩ : ∃ b o, CellsAt w1 g 0 ((numB n i).flatMap encU) := ⟨0, 0, own_cells codU (hS.get 0 rfl)⟩
    (conv => whnf)
    refine strC Tryz.underlying103 Tryz.underlying5 Tryz.underlying9 h0 (numB_len _ _) ?_
    repeat' ((conv => whnf); first | refine RetC.mk ?_ | refine NzC.mk (by decide) ?_ | refine RngC.mk (by omega) (by omega) ?_ | refine IdxC.mk (by omega) (by omega) ?_ | refine brD (fun _ => ?_) (fun _ => ?_) | refine brND (fun _ => ?_) (fun _ => ?_) | refine brN (fun _ => ?_) (fun _ => ?_) | refine brI (fun _ => ?_) (fun _ => ?_))
    exact ⟨rfl, hS.ext⟩

def valB (l : List UInt8) : Nat := l.foldl (fun n b => n * 256 + b.toNat) 0
theorem valB_step {l : List UInt8} {k : Nat} {x : UInt8} (h : l[k]? = some x) : valB (l.take (k + 1)) = valB (l.take k) * 256 + x.toNat := by
  unfold valB
  rw [List.take_add_one, h, List.foldl_append]
  rfl
theorem valB_app (l : List UInt8) (x : UInt8) : valB (l ++ [x]) = valB l * 256 + x.toNat := by
  unfold valB
  rw [List.foldl_append]
  rfl
theorem foldB_lt : ∀ (l : List UInt8) (n c : Nat), n < 256 ^ c → l.foldl (fun n b => n * 256 + b.toNat) n < 256 ^ (c + l.length)
  | [], n, c, h => by simpa using h
  | x :: l, n, c, h => by
    have hx := x.toNat_lt
    have := foldB_lt l (n * 256 + x.toNat) (c + 1) (by rw [Nat.pow_succ]; omega)
    rw [List.foldl_cons, List.length_cons, show c + (l.length + 1) = c + 1 + l.length by omega]
    exact this
theorem valB_lt (l : List UInt8) : valB l < 256 ^ l.length := by
  have := foldB_lt l 0 0 (by simp)
  rwa [Nat.zero_add] at this
theorem or_add {a b : Nat} (hb : b < 256) : a * 256 ||| b = a * 256 + b := by
  have := Nat.shiftLeft_add_eq_or_of_lt (i := 8) (b := b) (by omega) a
  rw [Nat.shiftLeft_eq] at this
  exact this.symm
theorem value_ok (l : List UInt8) (hl : l.length ≤ 7) (w : World) :
    CallC Tryz.prog 29 #[.string (bs l)] w fun v w' => v = .int .i64 (valB l : Nat) ∧ Ext No w w' := by
  refine fn_intro tabOk Tryz.func29 (by kernel_rfl) rfl Tryz.ntmps29 (Nat.le_of_ble_eq_true rfl) ?_
  have hS := St.start w No
  (conv => whnf)
  rw [bs_size]
  refine loopR tabOk (fun σ w' q => ∃ i : Nat, σ = [(7, .int .i64 i), (6, .int .i64 (l.length : Nat)), (3, .int .i64 (valB (l.take i) : Nat)), (0, .string (bs l))] ∧ q = l.length - i ∧ i ≤ l.length ∧ St w No w' [])
    (σ' := [(7, .int .i64 ((0 : Nat) : Int)), (6, .int .i64 (l.length : Nat)), (3, .int .i64 ((0 : Nat) : Int)), (0, .string (bs l))]) (n := l.length) ⟨rfl, rfl, rfl, rfl, trivial⟩ ⟨0, rfl, rfl, Nat.zero_le _, hS⟩ ?_
  clear hS
  rintro _ w1 q ⟨i, rfl, rfl, hi, hS⟩
  (conv => whnf)
  refine brD (fun h3 => ?_) (fun h3 => ?_)
  · obtain ⟨x, hx⟩ : ∃ x, l[i]? = some x := ⟨_, List.getElem?_eq_getElem (by omega)⟩
    have hst := valB_step hx
    have hlt := valB_lt (l.take i)
    have h7 : 256 ^ (l.take i).length ≤ 256 ^ 6 := Nat.pow_le_pow_right (by omega) (by rw [List.length_take]; omega)
    have hx8 := x.toNat_lt
    generalize valB (l.take i) = v at hst hlt
    have hv : v < 281474976710656 := Nat.lt_of_lt_of_le hlt h7
    (conv => whnf)
    refine shlC (n := 8) (m := ((v * 256 : Nat) : Int)) rfl (by decide) (by rw [IntKind.wrap_i64]; omega) ?_
    (conv => whnf)
    refine idxS Tryz.underlying9 rfl hx ?_
    (conv => whnf)
    refine convI (kd := .i64) (m := (x.toNat : Int)) (by kernel_rfl) Tryz.underlying3 (by rw [IntKind.wrap_i64]; omega) ?_
    (conv => whnf)
    refine orC64 (a := v * 256) (by omega) (by omega) ?_
    rw [or_add (by omega), ← hst]
    (conv => whnf)
    refine RngC.mk (by omega) (by omega) ?_
    (conv => whnf)
    refine LoopE.mk ⟨_, [(7, .int .i64 ((i + 1 : Nat) : Int)), (6, _), (3, .int .i64 (valB (l.take (i + 1)) : Nat)), (0, _)], ?_, ⟨rfl, rfl, rfl, rfl, trivial⟩, ⟨i + 1, rfl, rfl, by omega, hS⟩⟩
    omega
  · obtain rfl : i = l.length := by omega
    rw [List.take_length]
    repeat' ((conv => whnf); first | refine RetC.mk ?_ | refine NzC.mk (by decide) ?_ | refine RngC.mk (by omega) (by omega) ?_ | refine IdxC.mk (by omega) (by omega) ?_ | refine brD (fun _ => ?_) (fun _ => ?_) | refine brND (fun _ => ?_) (fun _ => ?_) | refine brN (fun _ => ?_) (fun _ => ?_) | refine brI (fun _ => ?_) (fun _ => ?_))
    exact ⟨rfl, hS.ext⟩
theorem numB_succ (n m : Nat) : numB n (m + 1) = numB (n / 256) m ++ [UInt8.ofNat n] := by
  unfold numB
  rw [List.range_succ, List.map_append]
  congr 1
  · apply List.map_congr_left
    intro j hj
    have hj := List.mem_range.1 hj
    rw [show m + 1 - 1 - j = (m - 1 - j) + 1 by omega, Nat.pow_succ, Nat.mul_comm, ← Nat.div_div_eq_div_mul]
  · simp
theorem valB_num : ∀ (m n : Nat), valB (numB n m) = n % 256 ^ m
  | 0, n => by simp [numB, valB, Nat.mod_one]
  | m + 1, n => by
    have h : (256 : Nat) ^ (m + 1) = 256 * 256 ^ m := Nat.pow_succ'
    rw [numB_succ, valB_app, valB_num m, UInt8.toNat_ofNat', h, Nat.mod_mul]
    omega
end Go.Proofs.YtcioicoedmmkhaaGreatDoor

namespace Go.Proofs.YtcioicoedmmkhaaGreatDoor
open Go Ev

theorem Ev.St.ref {w0 w : World} {S : Nat → Prop} {H : List Ent} (_ : St w0 S w H) (T : Nat → Prop) : Ext T w w := Ext.refl _ _
theorem Ev.St.stK {w0 w1 w : World} {S T : Nat → Prop} {H : List Ent} (h : St w0 S w H) (hK : Ext T w1 w) (i : Nat) {b o : Nat} {t : TypeId} {cs vs : List Value} {k : World → Prop} (hi : H[i]? = some (Ev.blk b t cs)) (hle : o + vs.length ≤ cs.length) (h1 : vs.all isOne = true) (hT : T b)
    (hk : ∀ w', Ext T w1 w' → St w0 S w' (H.set i (Ev.blk b t (over cs o vs))) → k w') : StC w b o vs k := by
  have hb := h.blk i hi
  have hx : Ext (· = b) w (setBlk w b t (over cs o vs)) := Ext.set (S := (· = b)) (b := b) rfl t _
  exact ⟨t, cs, hb, hle, by simpa using h1, hk _ (hK.trans (hx.mono fun c hc => hc ▸ hT)) (h.upd i hi hx (fun c hc => by simp [Ev.blk, hc]) (blk_local _ _ _) (setBlk_blk hb.lt) (fun c hc => .inl hc))⟩
end Go.Proofs.YtcioicoedmmkhaaGreatDoor

namespace Go.Proofs.YtcioicoedmmkhaaGreatDoor
open Go Ev

end Go.Proofs.YtcioicoedmmkhaaGreatDoor

namespace Go.Proofs.YtcioicoedmmkhaaGreatDoor
open Go Ev

theorem rbyte_ok (n : Nat) (hn : n < 256) (w : World) : CallC Tryz.prog 42 #[.int .i64 (n : Int)] w fun v w' => v = .string (bs [UInt8.ofNat n]) ∧ Ext No w w' := by
  have hb : ((UInt8.ofNat n).toNat : Int) = (n : Int) := by rw [byte_of]; omega
  refine fn_intro tabOk Tryz.func42 (by kernel_rfl) rfl Tryz.ntmps42 (Nat.le_of_ble_eq_true rfl) ?_
  have hS := St.start w No
  (conv => whnf)
  refine convI (kd := .u8) (m := ((UInt8.ofNat n).toNat : Int)) (by kernel_rfl) Tryz.underlying5 (by rw [IntKind.wrap_u8', hb]; omega) ?_
  (conv => whnf)
  refine hS.lit (cs := encU (UInt8.ofNat n)) Tryz.underlying103 (sz := 1) (by kernel_rfl) (z := .int .u8 0) (by kernel_rfl) rfl rfl (by rfl) (fun bz w' hbz hS => ?_)
  have h0 : CellsAt w' bz 0 ([UInt8.ofNat n].flatMap encU) := (hS.blk 0 rfl).cells rfl
  (conv => whnf)
  refine strC Tryz.underlying103 Tryz.underlying5 Tryz.underlying9 h0 rfl ?_
  repeat' ((conv => whnf); first | refine RetC.mk ?_ | refine NzC.mk (by decide) ?_ | refine RngC.mk (by omega) (by omega) ?_ | refine IdxC.mk (by omega) (by omega) ?_ | refine brD (fun _ => ?_) (fun _ => ?_) | refine brND (fun _ => ?_) (fun _ => ?_) | refine brN (fun _ => ?_) (fun _ => ?_) | refine brI (fun _ => ?_) (fun _ => ?_))
  exact ⟨rfl, hS.ext⟩
theorem numB_head (n m : Nat) : numB n (m + 1) = UInt8.ofNat (n / 256 ^ m) :: numB n m := by
  unfold numB
  rw [List.range_succ_eq_map, List.map_cons, List.map_map]
  congr 1
  apply List.map_congr_left
  intro j hj
  have hj := List.mem_range.1 hj
  simp only [Function.comp]
  rw [show m + 1 - 1 - (j + 1) = m - 1 - j by omega]
theorem wide_ok (n m : Nat) (hm : m ≤ 100) (hn : n < 9223372036854775808) (w : World) :
    CallC Tryz.prog 43 #[.int .i64 (n : Int), .int .i64 (m : Int)] w fun v w' => v = .string (bs (numB n m)) ∧ Ext No w w' := by
  refine fn_intro tabOk Tryz.func43 (by kernel_rfl) rfl Tryz.ntmps43 (Nat.le_of_ble_eq_true rfl) ?_
  have hS := St.start w No
  (conv => whnf)
  refine loopR tabOk (fun σ w' q => ∃ i : Nat, σ = [(6, .int .i64 i), (5, .string (bs (numB n i))), (1, .int .i64 m), (0, .int .i64 (n / 256 ^ i : Nat))] ∧ q = m - i ∧ i ≤ m ∧ St w No w' [])
    (σ' := [(6, .int .i64 ((0 : Nat) : Int)), (5, .string (bs (numB n 0))), (1, .int .i64 m), (0, .int .i64 n)]) (n := m) ⟨rfl, rfl, rfl, rfl, trivial⟩ ⟨0, by simp, rfl, Nat.zero_le _, hS⟩ ?_
  clear hS
  rintro _ w1 q ⟨i, rfl, rfl, hi, hS⟩
  have hle : n / 256 ^ i ≤ n := Nat.div_le_self _ _
  have hst := numB_head n i
  have hdd : n / 256 ^ (i + 1) = n / 256 ^ i / 256 := by rw [Nat.pow_succ, Nat.div_div_eq_div_mul]
  have hof : UInt8.ofNat (n / 256 ^ i) = UInt8.ofNat (n / 256 ^ i % 256) := by
    apply UInt8.toNat_inj.1
    rw [UInt8.toNat_ofNat', UInt8.toNat_ofNat']
    omega
  generalize n / 256 ^ i = d at hle hst hdd hof
  (conv => whnf)
  refine brD (fun h3 => ?_) (fun h3 => ?_)
  · have hm1 : (d : Int).tmod 256 = ((d % 256 : Nat) : Int) := by rw [Int.tmod_eq_emod_of_nonneg (by omega)]; omega
    have hd1 : (d : Int).tdiv 256 = ((d / 256 : Nat) : Int) := by rw [Int.tdiv_eq_ediv_of_nonneg (by omega)]; omega
    (conv => whnf)
    refine NzC.mk (by decide) ?_
    rw [hm1]
    (conv => whnf)
    refine (rbyte_ok (d % 256) (by omega) _).mono ?_
    rintro v w' ⟨rfl, hx⟩
    replace hS := hS.no hx
    (conv => whnf)
    refine addS (by rw [numB_len]; simp; omega) ?_
    rw [← hof, List.singleton_append, ← hst]
    (conv => whnf)
    refine NzC.mk (by decide) ?_
    rw [hd1]
    (conv => whnf)
    refine RngC.mk (by omega) (by omega) ?_
    (conv => whnf)
    refine RngC.mk (by omega) (by omega) ?_
    (conv => whnf)
    refine LoopE.mk ⟨_, [(6, .int .i64 ((i + 1 : Nat) : Int)), (5, _), (1, _), (0, .int .i64 (n / 256 ^ (i + 1) : Nat))], ?_, ⟨rfl, rfl, rfl, by rw [hdd]; rfl, trivial⟩, ⟨i + 1, rfl, rfl, by omega, hS⟩⟩
    omega
  · obtain rfl : i = m := by omega
    repeat' ((conv => whnf); first | refine RetC.mk ?_ | refine NzC.mk (by decide) ?_ | refine RngC.mk (by omega) (by omega) ?_ | refine IdxC.mk (by omega) (by omega) ?_ | refine brD (fun _ => ?_) (fun _ => ?_) | refine brND (fun _ => ?_) (fun _ => ?_) | refine brN (fun _ => ?_) (fun _ => ?_) | refine brI (fun _ => ?_) (fun _ => ?_))
    exact ⟨rfl, hS.ext⟩
end Go.Proofs.YtcioicoedmmkhaaGreatDoor

namespace Go.Proofs.YtcioicoedmmkhaaGreatDoor
open Go Ev

structure BytS where
  data : List UInt8
  off : Bool
  left : Int
section
variable {w : World} {b : Nat} {B : BytS}
end
end Go.Proofs.YtcioicoedmmkhaaGreatDoor

namespace Go.Proofs.YtcioicoedmmkhaaGreatDoor
open Go Ev

section
variable {w : World} {G G' : RuleS → Prop} {a b : Option Addr} {n m c d : Nat} {xs ys : List RuleS}
end
end Go.Proofs.YtcioicoedmmkhaaGreatDoor

namespace Go.Proofs.YtcioicoedmmkhaaGreatDoor
open Go Ev Go.Extern

def hv (t : TypeId) : Value := .pointer (some ⟨22, t, none⟩)
def rt (t : TypeId) : Value := .iface 135 (.agg #[hv t])
def rvl (t : TypeId) (a : Addr) : List Value := [hv t, .pointer (some a), .int .u64 150]

def EX (P : Program) (f : FuncId) (s : Array Value → Sem Value) : Prop := ∀ args w, (callFunc f args).run P w = ((s args).run P w).andThen fun v w' => .ok (.value v) w'
theorem EX.to {P : Program} {f : FuncId} {s : Array Value → Sem Value} (h : EX P f s) {args : Array Value} {w w' : World} {v : Value} (hs : (s args).run P w = .ok v w') : (callFunc f args).run P w = .ok (.value v) w' := by
  rw [h, hs]
  rfl
theorem e_valueOf : EX Tryz.prog 69 (fun args => ReflectliteValue.unpack (args.getD 0 (.tuple #[]))) := fun args w =>
  run_callFunc_extern (e := (fun args => ReflectliteValue.unpack (args.getD 0 (.tuple #[])))) Tryz.func69 (by kernel_rfl) (by kernel_rfl) (by kernel_rfl) (by kernel_rfl) args w
theorem e_type : EX Tryz.prog 70 (ReflectliteValue.methodAny (ReflectliteValue.valueError "reflectlite.Value.Type" 0) (fun t _ _ _ => ReflectliteType.toType t)) := fun args w =>
  run_callFunc_extern (e := (ReflectliteValue.methodAny (ReflectliteValue.valueError "reflectlite.Value.Type" 0) (fun t _ _ _ => ReflectliteType.toType t))) Tryz.func70 (by kernel_rfl) (by kernel_rfl) (by kernel_rfl) (by kernel_rfl) args w
theorem e_isNil : EX Tryz.prog 71 (ReflectliteValue.method (ReflectliteValue.valueError "reflectlite.Value.IsNil" 0) ReflectliteValue.isNil) := fun args w =>
  run_callFunc_extern (e := (ReflectliteValue.method (ReflectliteValue.valueError "reflectlite.Value.IsNil" 0) ReflectliteValue.isNil)) Tryz.func71 (by kernel_rfl) (by kernel_rfl) (by kernel_rfl) (by kernel_rfl) args w
theorem e_kind : EX Tryz.prog 139 (ReflectliteType.abiMethod fun t => do pure (.int .u8 (← Rtype.kind t))) := fun args w =>
  run_callFunc_extern (e := (ReflectliteType.abiMethod fun t => do pure (.int .u8 (← Rtype.kind t)))) Tryz.func139 (by kernel_rfl) (by kernel_rfl) (by kernel_rfl) (by kernel_rfl) args w
theorem e_elem : EX Tryz.prog 151 (ReflectliteType.method ReflectliteType.elem) := fun args w =>
  run_callFunc_extern (e := (ReflectliteType.method ReflectliteType.elem)) Tryz.func151 (by kernel_rfl) (by kernel_rfl) (by kernel_rfl) (by kernel_rfl) args w
theorem e_impl : EX Tryz.prog 152 (ReflectliteType.relation "Implements" ReflectliteType.implements_) := fun args w =>
  run_callFunc_extern (e := (ReflectliteType.relation "Implements" ReflectliteType.implements_)) Tryz.func152 (by kernel_rfl) (by kernel_rfl) (by kernel_rfl) (by kernel_rfl) args w
theorem e_typeOf : EX Tryz.prog 73 ReflectliteType.typeOf := fun args w =>
  run_callFunc_extern (e := ReflectliteType.typeOf) Tryz.func73 (by kernel_rfl) (by kernel_rfl) (by kernel_rfl) (by kernel_rfl) args w
theorem e_assign : EX Tryz.prog 149 (ReflectliteType.relation "AssignableTo" ReflectliteType.assignableTo) := fun args w =>
  run_callFunc_extern (e := (ReflectliteType.relation "AssignableTo" ReflectliteType.assignableTo)) Tryz.func149 (by kernel_rfl) (by kernel_rfl) (by kernel_rfl) (by kernel_rfl) args w

theorem e_comp : EX Tryz.prog 150 (ReflectliteType.method fun t => do Rtype.noPackHeld "Comparable" t; pure (.bool (← typeInfo t).comparable)) := fun args w =>
  run_callFunc_extern (e := ReflectliteType.method fun t => do Rtype.noPackHeld "Comparable" t; pure (.bool (← typeInfo t).comparable)) Tryz.func150 (by kernel_rfl) (by kernel_rfl) (by kernel_rfl) (by kernel_rfl) args w

theorem x_comp (w : World) : (callFunc 150 #[.agg #[hv 182]]).run Tryz.prog w = .ok (.value (.bool true)) w := e_comp.to (by kernel_rfl)
theorem x_valueOf (t : Addr) (w : World) : (callFunc 69 #[.iface 92 (.pointer (some t))]).run Tryz.prog w
    = .ok (.value (.agg (rvl 92 ⟨w.heap.size, 0, none⟩).toArray)) (pushBlk w 92 [.pointer (some t)]) := e_valueOf.to (by kernel_rfl)
theorem x_type (a : Addr) (w : World) : (callFunc 70 #[.agg (rvl 92 a).toArray]).run Tryz.prog w = .ok (.value (rt 92)) w := e_type.to (by kernel_rfl)
theorem x_isNil (a p : Addr) (w : World) (ha : w.cell? a = some (.pointer (some p))) : (callFunc 71 #[.agg (rvl 92 a).toArray]).run Tryz.prog w = .ok (.value (.bool false)) w := by
  refine e_isNil.to ?_
  have hp : (ReflectliteValue.parts (.agg (rvl 92 a).toArray)).run Tryz.prog w = .ok (some (92, a, 150)) w := by kernel_rfl
  rw [show ReflectliteValue.method (ReflectliteValue.valueError "reflectlite.Value.IsNil" 0) ReflectliteValue.isNil #[.agg (rvl 92 a).toArray] = (do match ← ReflectliteValue.parts (.agg (rvl 92 a).toArray) with | none => ReflectliteValue.valueError "reflectlite.Value.IsNil" 0 | some (t, a, fl) => ReflectliteValue.isNil t a fl (fl % 32)) from rfl]
  simp only [Sem.run_bind, hp, Result.andThen]
  simp [ReflectliteValue.isNil, loadVar, isAgg, underlying, Tryz.underlying92, ha, Result.andThen]
theorem x_kind1 (w : World) : (callFunc 139 #[hv 92]).run Tryz.prog w = .ok (.value (.int .u8 22)) w := e_kind.to (by kernel_rfl)
theorem x_kind2 (w : World) : (callFunc 139 #[hv 87]).run Tryz.prog w = .ok (.value (.int .u8 22)) w := e_kind.to (by kernel_rfl)
theorem x_elem (w : World) : (callFunc 151 #[.agg #[hv 92]]).run Tryz.prog w = .ok (.value (rt 87)) w := e_elem.to (by kernel_rfl)
theorem x_impl (w : World) : (callFunc 152 #[.agg #[hv 87], rt 28]).run Tryz.prog w = .ok (.value (.bool true)) w := e_impl.to (by kernel_rfl)
theorem x_typeOf (a : Addr) (w : World) : (callFunc 73 #[.iface 182 (.pointer (some a))]).run Tryz.prog w = .ok (.value (rt 182)) w := e_typeOf.to (by kernel_rfl)
theorem x_assign (w : World) : (callFunc 149 #[.agg #[hv 182], rt 87]).run Tryz.prog w = .ok (.value (.bool false)) w := e_assign.to (by kernel_rfl)

theorem m_kind (h : Value) (w : World) : (Go.method (Tryz.prog.types.size + Made.depth) 135 (.agg #[h]) "Kind").run Tryz.prog w = .ok (139, h) w := by kernel_rfl
theorem m_elem (h : Value) (w : World) : (Go.method (Tryz.prog.types.size + Made.depth) 135 (.agg #[h]) "Elem").run Tryz.prog w = .ok (151, .agg #[h]) w := by kernel_rfl
theorem m_impl (h : Value) (w : World) : (Go.method (Tryz.prog.types.size + Made.depth) 135 (.agg #[h]) "Implements").run Tryz.prog w = .ok (152, .agg #[h]) w := by kernel_rfl
theorem m_assign (h : Value) (w : World) : (Go.method (Tryz.prog.types.size + Made.depth) 135 (.agg #[h]) "AssignableTo").run Tryz.prog w = .ok (149, .agg #[h]) w := by kernel_rfl
theorem m_comp (h : Value) (w : World) : (Go.method (Tryz.prog.types.size + Made.depth) 135 (.agg #[h]) "Comparable").run Tryz.prog w = .ok (150, .agg #[h]) w := by kernel_rfl
end Go.Proofs.YtcioicoedmmkhaaGreatDoor

namespace Go.Proofs.YtcioicoedmmkhaaGreatDoor
open Go Ev Go.Extern

def Handle (w : World) : Prop := w.cell? ⟨13, 0, none⟩ = some (rt 28)
theorem Handle.ext {w w' : World} (h : Handle w) (hx : Ext No w w') : Handle w' := hx.cell h fun h => h

theorem Ev.St.pushed {w0 w : World} {S : Nat → Prop} {H : List Ent} (h : St w0 S w H) (t : TypeId) (cs : List Value) : St w0 S (pushBlk w t cs) (H ++ [Ev.blk w.heap.size t cs]) := by
  refine h.made (Ext.push _ _ _ _) (blk_local _ _ _) (show (w.heap.push _)[w.heap.size]? = _ by rw [Array.getElem?_push, if_pos rfl]) ?_
  intro b hb
  obtain rfl : b = w.heap.size := by simpa [Ev.blk] using hb
  simp [pushBlk]

theorem ta_as (a : Addr) (w : World) : (Instr.typeAssert (.iface 182 (.pointer (some a))) 28 139 true).run Tryz.prog w = .ok (.tuple #[.nilIface, .bool false]) w := run_typeAssert_lacksB Tryz.underlying139 (by kernel_rfl) (by kernel_rfl) _ _ w
theorem ta_un (a : Addr) (w : World) : (Instr.typeAssert (.iface 182 (.pointer (some a))) 28 142 true).run Tryz.prog w = .ok (.tuple #[.nilIface, .bool false]) w := run_typeAssert_lacksB Tryz.underlying142 (by kernel_rfl) (by kernel_rfl) _ _ w
theorem ta_uns (a : Addr) (w : World) : (Instr.typeAssert (.iface 182 (.pointer (some a))) 28 144 true).run Tryz.prog w = .ok (.tuple #[.nilIface, .bool false]) w := run_typeAssert_lacksB Tryz.underlying144 (by kernel_rfl) (by kernel_rfl) _ _ w
theorem ta_is (a : Addr) (w : World) : (Instr.typeAssert (.iface 182 (.pointer (some a))) 28 146 true).run Tryz.prog w = .ok (.tuple #[.nilIface, .bool false]) w := run_typeAssert_lacksB Tryz.underlying146 (by kernel_rfl) (by kernel_rfl) _ _ w

theorem as_miss (e p q : Addr) (w : World) : CallC Tryz.prog 72 #[.iface 182 (.pointer (some e)), .iface 92 (.pointer (some p)), .agg (rvl 92 q).toArray, rt 87] w fun v w' => v = .bool false ∧ Ext No w w' := by
  refine fn_intro tabOk Tryz.func72 (by kernel_rfl) rfl Tryz.ntmps72 (Nat.le_of_ble_eq_true rfl) ?_
  have hS := St.start w No
  (conv => whnf)
  refine hS.new (fun b w' hb hS => ?_)
  (conv => whnf)
  refine loopR tabOk (fun σ w' n => σ = [(3, rt 87), (0, .iface 182 (.pointer (some e)))] ∧ Ext No w w')
    (σ' := [(3, rt 87), (0, .iface 182 (.pointer (some e)))]) (n := 0) ⟨rfl, rfl, trivial⟩ ⟨rfl, hS.ext⟩ ?_
  clear hS
  rintro _ w1 n ⟨rfl, hx⟩
  (conv => whnf)
  refine CallC.extern (x_typeOf e w1) ?_
  (conv => whnf)
  refine ⟨_, _, m_assign _ _, CallC.extern (x_assign w1) ?_⟩
  (conv => whnf)
  refine ⟨_, _, ta_as e w1, ?_⟩
  (conv => whnf)
  refine ⟨_, _, ta_un e w1, ?_⟩
  (conv => whnf)
  refine ⟨_, _, ta_uns e w1, ?_⟩
  repeat' ((conv => whnf); first | refine RetC.mk ?_ | refine NzC.mk (by decide) ?_ | refine RngC.mk (by omega) (by omega) ?_ | refine IdxC.mk (by omega) (by omega) ?_ | refine brD (fun _ => ?_) (fun _ => ?_) | refine brND (fun _ => ?_) (fun _ => ?_) | refine brN (fun _ => ?_) (fun _ => ?_) | refine brI (fun _ => ?_) (fun _ => ?_))
  exact ⟨rfl, hx⟩

theorem errorsAs_miss (e p : Addr) (w : World) (hh : Handle w) : CallC Tryz.prog 53 #[.iface 182 (.pointer (some e)), .iface 92 (.pointer (some p))] w fun v w' => v = .bool false ∧ Ext No w w' := by
  refine fn_intro tabOk Tryz.func53 (by kernel_rfl) rfl Tryz.ntmps53 (Nat.le_of_ble_eq_true rfl) ?_
  have hS := St.start w No
  (conv => whnf)
  refine CallC.extern (x_valueOf p w) ?_
  replace hS := hS.pushed 92 [.pointer (some p)]
  have hb := (hS.blk 0 rfl).cell 0
  have hbl := (hS.blk 0 rfl).lt
  generalize pushBlk w 92 [.pointer (some p)] = w1 at hS hb hbl
  generalize w.heap.size = b1 at hS hb hbl
  (conv => whnf)
  first | refine ZeroC.mk ⟨.agg #[.pointer none, .pointer none, .int .u64 0], by kernel_rfl, ?_⟩ | skip
  (conv => whnf)
  refine hS.new (fun b w2 hb2 hS => ?_)
  (conv => whnf)
  refine hS.st 1 rfl (Nat.le_of_ble_eq_true rfl) rfl (fun w3 hS => ?_)
  (conv => whnf)
  refine hS.la 1 rfl (l := rvl 92 ⟨b1, 0, none⟩) rfl rfl ?_
  (conv => whnf)
  refine CallC.extern (x_type _ w3) ?_
  (conv => whnf)
  refine ⟨_, _, m_kind _ _, CallC.extern (x_kind1 w3) ?_⟩
  (conv => whnf)
  refine PureC.of (fun w => rfl) ?_
  (conv => whnf)
  refine hS.la 1 rfl (l := rvl 92 ⟨b1, 0, none⟩) rfl rfl ?_
  (conv => whnf)
  refine CallC.extern (x_isNil _ p w3 ((hS.blk 0 rfl).cell 0)) ?_
  (conv => whnf)
  refine ⟨_, _, m_elem _ _, CallC.extern (x_elem w3) ?_⟩
  (conv => whnf)
  refine ⟨_, _, m_kind _ _, CallC.extern (x_kind2 w3) ?_⟩
  (conv => whnf)
  refine PureC.of (fun w => rfl) ?_
  (conv => whnf)
  refine hS.ldr hh id ?_
  (conv => whnf)
  refine ⟨_, _, m_impl _ _, CallC.extern (x_impl w3) ?_⟩
  (conv => whnf)
  refine hS.la 1 rfl (l := rvl 92 ⟨b1, 0, none⟩) rfl rfl ?_
  (conv => whnf)
  refine (as_miss e p _ w3).mono ?_
  rintro v w' ⟨rfl, hx⟩
  repeat' ((conv => whnf); first | refine RetC.mk ?_ | refine NzC.mk (by decide) ?_ | refine RngC.mk (by omega) (by omega) ?_ | refine IdxC.mk (by omega) (by omega) ?_ | refine brD (fun _ => ?_) (fun _ => ?_) | refine brND (fun _ => ?_) (fun _ => ?_) | refine brN (fun _ => ?_) (fun _ => ?_) | refine brI (fun _ => ?_) (fun _ => ?_))
  exact ⟨rfl, (hS.no hx).ext⟩

theorem is_eq {E : Nat → Addr} {n : Nat} {ks : List Nat} (j k : Nat) (w : World) (hE : Errs w E n ks) (hj : ks.contains j = true) (hk : ks.contains k = true) :
    CallC Tryz.prog 74 #[.iface 182 (.pointer (some (E j))), .iface 182 (.pointer (some (E k))), .bool true] w fun v w' => v = .bool (Nat.beq j k) ∧ Ext No w w' := by
  refine fn_intro tabOk Tryz.func74 (by kernel_rfl) rfl Tryz.ntmps74 (Nat.le_of_ble_eq_true rfl) ?_
  have hS := St.start w No
  (conv => whnf)
  refine loopR tabOk (fun σ w' n => σ = [(2, .bool true), (1, .iface 182 (.pointer (some (E k)))), (0, .iface 182 (.pointer (some (E j))))] ∧ w = w')
    (σ' := [(2, .bool true), (1, .iface 182 (.pointer (some (E k)))), (0, .iface 182 (.pointer (some (E j))))]) (n := 0) ⟨rfl, rfl, rfl, trivial⟩ ⟨rfl, rfl⟩ ?_
  clear hS
  rintro _ w1 n ⟨rfl, rfl⟩
  (conv => whnf)
  obtain ⟨i1, hi1, hcmp⟩ := Option.map_eq_some_iff.1 (show (Tryz.prog.info? 182).map (·.comparable) = some true by kernel_rfl)
  obtain ⟨i2, hi2, hsz⟩ := Option.map_eq_some_iff.1 (show (Tryz.prog.info? 184).map (·.size) = some 1 by kernel_rfl)
  by_cases h : j = k
  · subst h
    refine ⟨_, run_eql_iface_ptr_same w (E j) Tryz.underlying28 Tryz.underlying182 hi1 hcmp hi2, ?_⟩
    repeat' ((conv => whnf); first | refine RetC.mk ?_ | refine NzC.mk (by decide) ?_ | refine RngC.mk (by omega) (by omega) ?_ | refine IdxC.mk (by omega) (by omega) ?_ | refine brD (fun _ => ?_) (fun _ => ?_) | refine brND (fun _ => ?_) (fun _ => ?_) | refine brN (fun _ => ?_) (fun _ => ?_) | refine brI (fun _ => ?_) (fun _ => ?_))
    exact ⟨by rw [Nat.beq_refl], Ext.refl _ _⟩
  · obtain ⟨⟨c1, t1, h1⟩, _⟩ := hE.row j hj
    obtain ⟨⟨c2, t2, h2⟩, _⟩ := hE.row k hk
    refine ⟨_, run_eql_iface_ptr_other w Tryz.underlying28 Tryz.underlying182 hi1 hcmp hi2 (by rw [hsz]; decide) (hE.inj j k hj hk h) h1 h2, ?_⟩
    (conv => whnf)
    refine ⟨_, _, ta_is _ w, ?_⟩
    (conv => whnf)
    refine ⟨_, _, ta_un _ w, ?_⟩
    (conv => whnf)
    refine ⟨_, _, ta_uns _ w, ?_⟩
    repeat' ((conv => whnf); first | refine RetC.mk ?_ | refine NzC.mk (by decide) ?_ | refine RngC.mk (by omega) (by omega) ?_ | refine IdxC.mk (by omega) (by omega) ?_ | refine brD (fun _ => ?_) (fun _ => ?_) | refine brND (fun _ => ?_) (fun _ => ?_) | refine brN (fun _ => ?_) (fun _ => ?_) | refine brI (fun _ => ?_) (fun _ => ?_))
    exact ⟨by rw [show Nat.beq j k = false by cases hb : Nat.beq j k with | false => rfl | true => exact absurd (Nat.eq_of_beq_eq_true hb) h], Ext.refl _ _⟩

theorem errorsIs_eq {E : Nat → Addr} {n : Nat} {ks : List Nat} (j k : Nat) (w : World) (hE : Errs w E n ks) (hj : ks.contains j = true) (hk : ks.contains k = true) :
    CallC Tryz.prog 54 #[.iface 182 (.pointer (some (E j))), .iface 182 (.pointer (some (E k)))] w fun v w' => v = .bool (Nat.beq j k) ∧ Ext No w w' := by
  refine fn_intro tabOk Tryz.func54 (by kernel_rfl) rfl Tryz.ntmps54 (Nat.le_of_ble_eq_true rfl) ?_
  (conv => whnf)
  refine CallC.extern (x_typeOf (E k) w) ?_
  (conv => whnf)
  refine ⟨_, _, m_comp _ _, CallC.extern (x_comp w) ?_⟩
  (conv => whnf)
  refine (is_eq j k w hE hj hk).mono ?_
  rintro v w' ⟨rfl, hx⟩
  repeat' ((conv => whnf); first | refine RetC.mk ?_ | refine NzC.mk (by decide) ?_ | refine RngC.mk (by omega) (by omega) ?_ | refine IdxC.mk (by omega) (by omega) ?_ | refine brD (fun _ => ?_) (fun _ => ?_) | refine brND (fun _ => ?_) (fun _ => ?_) | refine brN (fun _ => ?_) (fun _ => ?_) | refine brI (fun _ => ?_) (fun _ => ?_))
  exact ⟨rfl, hx⟩

def allErrs : List Nat := [1, 2, 3, 4, 5, 6, 7, 8, 9, 10, 11]

theorem elem_at (E : Nat → Addr) : ∀ j : Nat, j < 11 → ([1, 2, 3, 4, 5, 6, 7, 8, 9, 10, 11].map fun k => Value.iface 182 (.pointer (some (E k))))[0 + ((j : Int)).toNat * 1]? = some (.iface 182 (.pointer (some (E (j + 1))))) := by
  intro j hj
  match j, hj with
  | 0, _ | 1, _ | 2, _ | 3, _ | 4, _ | 5, _ | 6, _ | 7, _ | 8, _ | 9, _ | 10, _ => rfl
  | n + 11, h => omega

theorem code_ok {E : Nat → Addr} {n : Nat} (k : Nat) (hk : k < 12) (w : World) (hE : Errs w E n allErrs) (hh : Handle w) :
    CallC Tryz.prog 31 #[errV E k] w fun v w' => v = .tuple #[.int .i64 k, .int .i64 (-1)] ∧ Ext No w w' := by
  cases k with
  | zero =>
    refine fn_intro tabOk Tryz.func31 (by kernel_rfl) rfl Tryz.ntmps31 (Nat.le_of_ble_eq_true rfl) ?_
    repeat' ((conv => whnf); first | refine RetC.mk ?_ | refine NzC.mk (by decide) ?_ | refine RngC.mk (by omega) (by omega) ?_ | refine IdxC.mk (by omega) (by omega) ?_ | refine brD (fun _ => ?_) (fun _ => ?_) | refine brND (fun _ => ?_) (fun _ => ?_) | refine brN (fun _ => ?_) (fun _ => ?_) | refine brI (fun _ => ?_) (fun _ => ?_))
    exact ⟨rfl, Ext.refl _ _⟩
  | succ k =>
    have hin : ∀ j, j < 11 → allErrs.contains (j + 1) = true := by
      intro j hj
      match j, hj with
      | 0, _ | 1, _ | 2, _ | 3, _ | 4, _ | 5, _ | 6, _ | 7, _ | 8, _ | 9, _ | 10, _ => rfl
      | n + 11, h => omega
    refine fn_intro tabOk Tryz.func31 (by kernel_rfl) rfl Tryz.ntmps31 (Nat.le_of_ble_eq_true rfl) ?_
    have hS := St.start w No
    (conv => whnf)
    refine hS.new (fun b w2 hb2 hS => ?_)
    (conv => whnf)
    refine (errorsAs_miss (E (k + 1)) ⟨b, 0, none⟩ w2 (hh.ext hS.ext)).mono ?_
    rintro v w' ⟨rfl, hx⟩
    replace hS := hS.no hx
    repeat' ((conv => whnf); first | refine hS.ldr (hE.at_ 1 rfl) id ?_ | refine hS.ldr (hE.at_ 2 rfl) id ?_ | refine hS.ldr (hE.at_ 3 rfl) id ?_ | refine hS.ldr (hE.at_ 4 rfl) id ?_ | refine hS.ldr (hE.at_ 5 rfl) id ?_ | refine hS.ldr (hE.at_ 6 rfl) id ?_ | refine hS.ldr (hE.at_ 7 rfl) id ?_ | refine hS.ldr (hE.at_ 8 rfl) id ?_ | refine hS.ldr (hE.at_ 9 rfl) id ?_ | refine hS.ldr (hE.at_ 10 rfl) id ?_ | refine hS.ldr (hE.at_ 11 rfl) id ?_)
    refine hS.lit (cs := allErrs.map fun k => Value.iface 182 (.pointer (some (E k)))) Tryz.underlying93 (sz := 1) (by kernel_rfl) (z := .nilIface) (by kernel_rfl) rfl rfl (by kernel_rfl) (fun bs w4 hbs hS => ?_)
    (conv => whnf)
    refine loopR tabOk (fun σ w' n => ∃ j : Nat, σ = [(29, .int .i64 j), (28, .int .i64 11), (27, .slice (some ⟨bs, 0, none⟩) 11 11), (3, .int .i64 (-1)), (0, .iface 182 (.pointer (some (E (k + 1)))))] ∧ n = 11 - j ∧ j ≤ k ∧ St w No w' [blk b 87 [.pointer none], blk bs 28 (allErrs.map fun k => Value.iface 182 (.pointer (some (E k))))])
      (σ' := [(29, .int .i64 ((0 : Nat) : Int)), (28, .int .i64 11), (27, .slice (some ⟨bs, 0, none⟩) 11 11), (3, .int .i64 (-1)), (0, .iface 182 (.pointer (some (E (k + 1)))))]) (n := 11) ⟨rfl, rfl, rfl, rfl, rfl, trivial⟩ ⟨0, rfl, rfl, Nat.zero_le _, hS⟩ ?_
    clear hS hx
    rintro _ w1 n ⟨j, rfl, rfl, hj, hS⟩
    (conv => whnf)
    refine brD (fun h3 => ?_) (fun h3 => ?_)
    · (conv => whnf)
      refine IdxC.mk (by omega) (by omega) ?_
      (conv => whnf)
      refine hS.ld 1 rfl (elem_at E j (by omega)) ?_
      (conv => whnf)
      refine (errorsIs_eq (k + 1) (j + 1) w1 (hE.ext hS.ext (fun _ h => h.elim)) (hin k (by omega)) (hin j (by omega))).mono ?_
      rintro v w' ⟨rfl, hx⟩
      replace hS := hS.no hx
      (conv => whnf)
      refine brI (fun h4 => ?_) (fun h4 => ?_)
      · have : k + 1 = j + 1 := Nat.eq_of_beq_eq_true h4
        obtain rfl : k = j := by omega
        (conv => whnf)
        refine RngC.mk (by omega) (by omega) ?_
        (conv => whnf)
        exact ⟨⟨rfl, hS.ext⟩⟩
      · have : k + 1 ≠ j + 1 := Nat.ne_of_beq_eq_false h4
        (conv => whnf)
        refine RngC.mk (by omega) (by omega) ?_
        (conv => whnf)
        exact LoopE.mk ⟨_, [(29, .int .i64 ((j + 1 : Nat) : Int)), (28, _), (27, _), (3, _), (0, _)], by omega, ⟨rfl, rfl, rfl, rfl, rfl, trivial⟩, ⟨j + 1, rfl, rfl, by omega, hS⟩⟩
    · exfalso; omega

theorem coded1_ok {E : Nat → Addr} {n : Nat} (k : Nat) (c : Int) (hk : k < 12) (w : World) (hE : Errs w E n allErrs) (hh : Handle w) :
    CallC Tryz.prog 10 #[errV E k, .int .i64 c] w fun v w' => v = .bool (decide ((k : Int) = c)) ∧ Ext No w w' := by
  refine fn_intro tabOk Tryz.func10 (by kernel_rfl) rfl Tryz.ntmps10 (Nat.le_of_ble_eq_true rfl) ?_
  (conv => whnf)
  refine (code_ok k hk w hE hh).mono ?_
  rintro v w' ⟨rfl, hx⟩
  repeat' ((conv => whnf); first | refine RetC.mk ?_ | refine NzC.mk (by decide) ?_ | refine RngC.mk (by omega) (by omega) ?_ | refine IdxC.mk (by omega) (by omega) ?_ | refine brD (fun _ => ?_) (fun _ => ?_) | refine brND (fun _ => ?_) (fun _ => ?_) | refine brN (fun _ => ?_) (fun _ => ?_) | refine brI (fun _ => ?_) (fun _ => ?_))
  all_goals refine ⟨?_, hx⟩
  all_goals simp [*]

theorem coded1_same {E : Nat → Addr} {n : Nat} (k : Nat) (hk : k < 12) (w : World) (hE : Errs w E n allErrs) (hh : Handle w) :
    CallC Tryz.prog 10 #[errV E k, .int .i64 k] w fun v w' => v = .bool true ∧ Ext No w w' := by
  have h := coded1_ok k k hk w hE hh
  rwa [decide_eq_true rfl] at h
theorem handle_of {L : List (String × DataW Unit)} {W : World} (hl : laidMetH Tryz.prog L W) (hm : ("errors.errorType", .iface "internal/reflectlite.rtype" (.agg [.ptr (.lit (.string [101, 114, 114, 111, 114]))])) ∈ L) : Handle W := by
  have h2 := (laidMetH_iff.1 hl).2 _ (List.mem_filter.2 ⟨hm, rfl⟩)
  obtain ⟨name, u, ty, e1, e2, e3, e4, e5⟩ := h2
  have en : name = [101, 114, 114, 111, 114] := (Option.some.inj e1).symm
  subst en
  obtain rfl := Option.some.inj ((show (Tryz.prog.cutTypes.find? (·.1 == "internal/reflectlite.rtype")).map (·.2) = some 135 by kernel_rfl).symm.trans e2)
  have hm : ty ∈ (List.range Tryz.prog.types.size).filter fun t => Tryz.prog.rowNamed t [101, 114, 114, 111, 114] := List.mem_filter.2 ⟨List.mem_range.2 e3, e4⟩
  rw [show ((List.range Tryz.prog.types.size).filter fun t => Tryz.prog.rowNamed t [101, 114, 114, 111, 114]) = [28] by kernel_rfl] at hm
  obtain rfl := List.mem_singleton.1 hm
  have hh : typeHandle Tryz.prog 28 = hv 28 := by kernel_rfl
  rw [hh] at e5
  have := World.var?_cell (show Tryz.prog.globalNamed "errors.errorType" = some 13 by kernel_rfl) e5 0
  simpa [Handle, rt] using this
end Go.Proofs.YtcioicoedmmkhaaGreatDoor

namespace Go.Proofs.YtcioicoedmmkhaaGreatDoor
open Go Ev Go.Extern

section
variable {w : World} {b : Nat}
end

end Go.Proofs.YtcioicoedmmkhaaGreatDoor
