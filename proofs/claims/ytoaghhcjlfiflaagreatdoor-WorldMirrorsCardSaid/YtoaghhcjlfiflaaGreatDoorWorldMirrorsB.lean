/-
  Texts of this claim, joined: EvJ, EvK, EvH, EvM, EvN, EvO, EvP, Tab, Err, Cells.
-/
import Derived.Test.YtoaghhcjlfiflaaGreatDoorWorldMirrorsA
import Derived.Deep.Upon
import Derived.Laws.Strings
import Derived.Laws.Strings2
import Derived.Laws.Strings3
import Derived.Laws.Concat
import Derived.Laws.BytesArg
import Derived.Laws.BitsAllLaws
import Derived.Laws.OwnMore
import Derived.Lib.AppendZerosOnto
import Derived.Laws.Slices
import Derived.Test.YtoaghhcjlfiflaaGreatDoorProg
import Derived.LaidSub
import Derived.Stop.LaidTwo

namespace Go.Proofs.YtoaghhcjlfiflaaGreatDoor.Ev
open Go

structure Codec {α : Type} (sz : Nat) (enc : α → List Value) : Prop where
  len : ∀ x, (enc x).length = sz
  one : ∀ x, (enc x).all isOne = true
  pos : 0 < sz

section
variable {α : Type} {sz : Nat} {enc : α → List Value}

theorem flat_len (C : Codec sz enc) (xs : List α) : (xs.flatMap enc).length = xs.length * sz := by
  induction xs with
  | nil => simp
  | cons x xs ih => rw [List.flatMap_cons, List.length_append, ih, C.len, List.length_cons]; rw [Nat.succ_mul]; omega
theorem flat_one (C : Codec sz enc) (xs : List α) : (xs.flatMap enc).all isOne = true := by
  induction xs with
  | nil => rfl
  | cons x xs ih => rw [List.flatMap_cons, List.all_append, ih, C.one]; rfl
theorem flat_split (C : Codec sz enc) : ∀ {xs : List α} {k : Nat} {x : α}, xs[k]? = some x → xs.flatMap enc = (xs.take k).flatMap enc ++ (enc x ++ (xs.drop (k + 1)).flatMap enc) ∧ ((xs.take k).flatMap enc).length = k * sz
  | [], _, _, h => by simp at h
  | y :: xs, 0, x, h => by
    simp only [List.getElem?_cons_zero, Option.some.injEq] at h
    subst h
    simp
  | y :: xs, k + 1, x, h => by
    simp only [List.getElem?_cons_succ] at h
    obtain ⟨h1, h2⟩ := flat_split C h
    constructor
    · rw [List.flatMap_cons, List.take_succ_cons, List.flatMap_cons, List.drop_succ_cons, List.append_assoc, ← h1]
    · rw [List.take_succ_cons, List.flatMap_cons, List.length_append, h2, C.len, Nat.succ_mul]; omega
theorem flat_get (C : Codec sz enc) {xs : List α} {k j : Nat} {x : α} {v : Value} (hx : xs[k]? = some x) (hv : (enc x)[j]? = some v) : (xs.flatMap enc)[k * sz + j]? = some v := by
  obtain ⟨h1, h2⟩ := flat_split C hx
  have hj := (List.getElem?_eq_some_iff.1 hv).1
  rw [h1, List.getElem?_append_right (by omega), h2, Nat.add_sub_cancel_left, List.getElem?_append_left hj]
  exact hv
theorem flat_sub (C : Codec sz enc) {xs : List α} {k j n : Nat} {x : α} (hx : xs[k]? = some x) (hn : j + n ≤ sz) : ((xs.flatMap enc).drop (k * sz + j)).take n = ((enc x).drop j).take n := by
  obtain ⟨h1, h2⟩ := flat_split C hx
  have hl := C.len x
  rw [h1, List.drop_append, h2, Nat.add_sub_cancel_left, List.drop_eq_nil_of_le (by omega), List.nil_append, List.drop_append, List.take_append_of_le_length (by simp; omega)]
theorem over_mid (A B D vs : List Value) (j : Nat) (h : j + vs.length ≤ B.length) : over (A ++ (B ++ D)) (A.length + j) vs = A ++ (over B j vs ++ D) := by
  unfold over
  rw [List.take_append, List.drop_append, List.take_of_length_le (by omega), Nat.add_sub_cancel_left, List.drop_eq_nil_of_le (by omega), List.take_append_of_le_length (by omega), List.nil_append]
  rw [show A.length + j + vs.length - A.length = j + vs.length by omega, List.drop_append_of_le_length h]
  simp
theorem flat_over (C : Codec sz enc) {xs : List α} {k j : Nat} {x y : α} {vs : List Value} (hx : xs[k]? = some x) (hn : j + vs.length ≤ sz) (hy : over (enc x) j vs = enc y) : over (xs.flatMap enc) (k * sz + j) vs = (xs.set k y).flatMap enc := by
  obtain ⟨h1, h2⟩ := flat_split C hx
  have hl := C.len x
  have hlt := (List.getElem?_eq_some_iff.1 hx).1
  rw [h1, ← h2, over_mid _ _ _ _ _ (by omega), hy]
  have hy' : (xs.set k y)[k]? = some y := by rw [List.getElem?_set_self hlt]
  rw [(flat_split C hy').1, List.take_set_of_le (by omega), List.drop_set_of_lt (by omega)]
theorem over_whole {cs vs : List Value} (h : vs.length = cs.length) : over cs 0 vs = vs := by
  unfold over
  rw [List.drop_eq_nil_of_le (by omega)]
  simp
theorem over_cons (p : Value) (cs vs : List Value) (o : Nat) : over (p :: cs) (o + 1) vs = p :: over cs o vs := by
  unfold over
  rw [List.take_succ_cons, show o + 1 + vs.length = (o + vs.length) + 1 by omega, List.drop_succ_cons]
  rfl

variable {G : α → Prop} {w w' : World} {S T : Nat → Prop} {a : Option Addr} {b o n : Nat} {xs : List α}
theorem Slc.ext (h : Slc w sz enc G a n xs) (hx : Ext S w w') (hS : ∀ b o, a = some ⟨b, o, none⟩ → ¬ S b) : Slc w' sz enc G a n xs :=
  ⟨h.len, h.max, fun k x hk => by
    obtain ⟨b, o, ha, hb, hc⟩ := h.cells k x hk
    exact ⟨b, o, ha, Nat.lt_of_lt_of_le hb hx.size, hx.cells hc (hS b o ha)⟩, h.good⟩
theorem Slc.no (h : Slc w sz enc G a n xs) (hx : Ext No w w') : Slc w' sz enc G a n xs := h.ext hx fun _ _ _ h => h
theorem Slc.at (h : Slc w sz enc G a n xs) {k : Nat} (hk : k < n) : ∃ b o x, xs[k]? = some x ∧ G x ∧ a = some ⟨b, o, none⟩ ∧ b < w.heap.size ∧ CellsAt w b (o + k * sz) (enc x) := by
  have hlt : k < xs.length := by rw [h.len]; exact hk
  obtain ⟨b, o, ha, hb, hc⟩ := h.cells k _ (List.getElem?_eq_getElem hlt)
  exact ⟨b, o, _, List.getElem?_eq_getElem hlt, h.good _ (List.getElem_mem hlt), ha, hb, hc⟩
theorem CellsAt.one {l : List Value} (h : CellsAt w b o l) (j : Nat) {v : Value} (hv : l[j]? = some v) : w.cell? ⟨b, o + j, none⟩ = some v := h j v hv
theorem Slc.of_cells (C : Codec sz enc) (hl : xs.length = n) (hm : n ≤ 9223372036854775807) (hg : ∀ x ∈ xs, G x) (hc : ∀ (j : Nat) v, (xs.flatMap enc)[j]? = some v → ∃ b o, a = some ⟨b, o, none⟩ ∧ w.cell? ⟨b, o + j, none⟩ = some v) : Slc w sz enc G a n xs :=
  ⟨hl, hm, fun k x hk => by
    have hp := C.pos
    have hlx := C.len x
    obtain ⟨v0, hv0⟩ : ∃ v, (enc x)[0]? = some v := ⟨_, List.getElem?_eq_getElem (by omega)⟩
    obtain ⟨b, o, ha, hc0⟩ := hc _ _ (flat_get C hk hv0)
    refine ⟨b, o, ha, cell_lt hc0, fun j v hj => ?_⟩
    obtain ⟨b', o', ha', hc'⟩ := hc _ _ (flat_get C hk hj)
    rw [ha] at ha'
    simp only [Option.some.injEq, Addr.mk.injEq, and_true] at ha'
    obtain ⟨rfl, rfl⟩ := ha'
    rw [Nat.add_assoc]
    exact hc', hg⟩
theorem Slc.of_blk (C : Codec sz enc) {t : TypeId} {cs : List Value} (h : Blk w b t cs) (hl : xs.length = n) (hm : n ≤ 9223372036854775807) (hg : ∀ x ∈ xs, G x) (hs : (cs.drop o).take (xs.length * sz) = xs.flatMap enc) : Slc w sz enc G (some ⟨b, o, none⟩) n xs :=
  Slc.of_cells C hl hm hg fun j v hj => ⟨b, o, rfl, by
    have hlt := (List.getElem?_eq_some_iff.1 hj).1
    rw [flat_len C] at hlt
    rw [h.cell, ← List.getElem?_drop, ← List.getElem?_take_of_lt hlt, hs]
    exact hj⟩

def ownL {α : Type} (e : TypeId) (sz : Nat) (enc : α → List Value) (v : Value) (xs : List α) : Ent := own e sz v xs.length (xs.flatMap enc)
theorem ownL_local {e : TypeId} {v : Value} : (ownL e sz enc v xs).Local := own_local _ _ _ _ _
theorem ownL_slc (C : Codec sz enc) {e : TypeId} {c : Nat} (h : (ownL e sz enc (.slice a n c) xs).holds w) (hg : ∀ x ∈ xs, G x) : Slc w sz enc G a n xs := by
  obtain ⟨h1, ⟨h2, h3⟩ | ⟨g, cap, cur, h2, h3, h4, h5, h6, h7, h8⟩⟩ := h
  · cases h2
    have hx : xs = [] := List.eq_nil_of_length_eq_zero h3
    subst hx
    exact ⟨rfl, by decide, by simp, by simp⟩
  · cases h2
    refine Slc.of_cells C rfl (by unfold maxLen at h6; omega) hg fun j v hj => ⟨g, 0, rfl, ?_⟩
    have hlt := (List.getElem?_eq_some_iff.1 hj).1
    rw [flat_len C] at hlt
    rw [← h8, List.getElem?_take_of_lt (by omega)] at hj
    simp only [World.cell?, h4, Nat.zero_add]
    simpa using hj
end

section
variable {P : Program} {α : Type} {sz : Nat} {enc : α → List Value} {w0 w w' : World} {S T : Nat → Prop} {H : List Ent}

theorem oneCell_of {v : Value} (h : isOne v = true) : v.oneCell' = true := by cases v <;> simp_all [isOne, Value.oneCell']

theorem grew (h : St w0 S w H) {i : Nat} {e : TypeId} {size : Nat} {v v' : Value} {n n' : Nat} {xs xs' : List Value} (hi : H[i]? = some (own e size v n xs)) (ho : w'.ownsRow 0 e size v' n' xs') (hg : w.grownBy w' v.ownBlock) (hb : v'.ownBlock = v.ownBlock ∨ v'.ownBlock = some w.heap.size) :
    St w0 S w' (H.set i (own e size v' n' xs')) := by
  refine h.upd i hi (Ext.of_grown hg) (fun q hq => by simp [own, hq]) (own_local _ _ _ _ _) ho ?_
  intro q hq
  have hq : v'.ownBlock = some q := by simpa [own] using hq
  rcases hb with hb | hb
  · left; simp only [own]; rw [← hb, hq]; simp
  · right
    rw [hb] at hq
    simp only [Option.some.injEq] at hq
    subst hq
    refine ⟨Nat.le_refl _, ?_⟩
    obtain ⟨_, ⟨h6, _⟩ | ⟨g, cap, cur, h6, _, h7, _⟩⟩ := ho
    · rw [h6] at hb; simp [Value.ownBlock] at hb
    · rw [h6] at hb
      simp only [Value.ownBlock, Option.some.injEq] at hb
      subst hb
      exact (Array.getElem?_eq_some_iff.1 h7).1

theorem St.appS (h : St w0 S w H) (C : Codec sz enc) (i : Nat) {t e : TypeId} {bytes : Nat} {z v : Value} {a : Option Addr} {m c : Nat} {G : α → Prop} {xs ys : List α} {k : Value → World → Prop}
    (hu : P.underlying t = some (.slice e)) (hs : (P.info? e).map (fun i => (i.size, i.bytes)) = some (sz, bytes)) (hz : (P.info? e).bind (·.zero) = some z) (hzs : Nat.beq z.cells.size sz = true)
    (hi : H[i]? = some (ownL e sz enc v xs)) (hy : Slc w sz enc G a m ys) (h63 : xs.length + m ≤ maxLen) (hbytes : (xs.length + m) * bytes ≤ 140737488355328)
    (hk : ∀ a' c' w', St w0 S w' (H.set i (ownL e sz enc (.slice a' (xs.length + m) c') (xs ++ ys))) → k (.slice a' (xs.length + m) c') w') :
    RunC P (Builtin.append_ #[t, t] 0 #[v, .slice a m c]) w k := by
  obtain ⟨ie, h1', h2⟩ := Option.map_eq_some_iff.1 hs
  obtain ⟨ie', h3, h4⟩ := Option.bind_eq_some_iff.1 hz
  obtain rfl := Option.some.inj (h1'.symm.trans h3)
  simp only [Prod.mk.injEq] at h2
  have hlen := hy.len
  have hen : xs.length + m = (xs ++ ys).length := by simp [hlen]
  have hef : (xs ++ ys).flatMap enc = xs.flatMap enc ++ ys.flatMap enc := by simp
  have form : ∀ (v' : Value) (w' : World), w'.ownsRow 0 e sz v' (xs.length + m) (xs.flatMap enc ++ ys.flatMap enc) → ∃ a' c', v' = .slice a' (xs.length + m) c' := by
    rintro v' w' ⟨_, ⟨h6, h7⟩ | ⟨g, cap, cur, h6, _⟩⟩
    · exact ⟨none, 0, by rw [h6, h7]⟩
    · exact ⟨_, _, h6⟩
  cases a with
  | none =>
    have hm : ys = [] := by
      cases ys with
      | nil => rfl
      | cons y ys => obtain ⟨b, o, ha, _⟩ := hy.cells 0 y rfl; cases ha
    subst hm
    have hm : m = 0 := by simpa using hlen.symm
    subst hm
    have ho := h.get i hi
    obtain ⟨a', c', hv⟩ := form v w (by simpa [ownL, own] using ho)
    subst hv
    have hle : xs.length ≤ c' := by
      obtain ⟨_, ⟨h6, h7⟩ | ⟨g, cap, cur, h6, _, _, h8, _⟩⟩ := ho
      · simp only [Value.slice.injEq] at h6; omega
      · simp only [Value.slice.injEq] at h6; omega
    refine ⟨.slice a' (xs.length + 0) c', w, ?_, hk a' c' w ?_⟩
    · refine run_append_nothing w t t 0 e ie hu h1' a' (xs.length + 0) c' hle (.slice none 0 c) ⟨.inl ⟨_, hu⟩, fun w' => rfl, rfl, rfl, by simp, by simp⟩
    · have : H.set i (ownL e sz enc (.slice a' (xs.length + 0) c') (xs ++ [])) = H := by
        rw [List.append_nil]
        obtain ⟨hl, he⟩ := List.getElem?_eq_some_iff.1 hi
        apply List.ext_getElem?
        intro j
        rw [List.getElem?_set]
        split
        · rename_i he'
          subst he'
          simp [hl, he]
        · rfl
      rw [this]
      exact h
  | some a =>
    have hsp : ∀ j u, (ys.flatMap enc)[j]? = some u → w.cell? (a.add j) = some u := by
      intro j u hj
      have hlt := (List.getElem?_eq_some_iff.1 hj).1
      rw [flat_len C] at hlt
      have hk : j / sz < ys.length := by rw [Nat.div_lt_iff_lt_mul C.pos]; exact hlt
      obtain ⟨b, o, ha, _, hc⟩ := hy.cells (j / sz) _ (List.getElem?_eq_getElem hk)
      simp only [Option.some.injEq] at ha
      subst ha
      rw [add_none]
      have e1 : j = j / sz * sz + j % sz := by rw [Nat.mul_comm]; exact (Nat.div_add_mod j sz).symm
      have hmod : j % sz < (enc ys[j / sz]).length := by rw [C.len]; exact Nat.mod_lt _ C.pos
      have h5 := flat_get C (List.getElem?_eq_getElem hk) (List.getElem?_eq_getElem hmod)
      rw [← e1, hj] at h5
      simp only [Option.some.injEq] at h5
      have := hc (j % sz) u (by rw [List.getElem?_eq_getElem hmod, h5])
      rw [Nat.add_assoc, ← e1] at this
      exact this
    obtain ⟨v', w', hr, ho, hg, hnil, hb⟩ := run_append_own_at (P := P) w 0 t 0 e ie z sz bytes hu h1' h4 h2.1 h2.2 (Nat.eq_of_beq_eq_true hzs) C.pos v xs.length (xs.flatMap enc) (h.get i hi) a m c (ys.flatMap enc) (by rw [flat_len C, hlen])
      hsp (fun u hu => oneCell_of (List.all_eq_true.1 (flat_one C ys) u hu)) h63 hbytes (Nat.zero_le _)
    obtain ⟨a', c', rfl⟩ := form v' w' ho
    refine ⟨_, _, hr, hk a' c' w' ?_⟩
    have := grew h hi ho hg hb
    simpa [ownL, hlen] using this

theorem St.lit0 (h : St w0 S w H) {t e : TypeId} {sz : Nat} {k : Value → World → Prop}
    (hu : P.underlying t = some (.slice e)) (hs : (P.info? e).map (·.size) = some sz)
    (hk : ∀ b w', St w0 S w' (H ++ [own e sz (.slice (some ⟨b, 0, none⟩) 0 0) 0 []]) → k (.slice (some ⟨b, 0, none⟩) 0 0) w') : RunC P (Instr.buildSlice t 0 #[]) w k := by
  obtain ⟨ie, h1, h2⟩ := Option.map_eq_some_iff.1 hs
  refine ⟨.slice (some ⟨w.heap.size, 0, none⟩) 0 0, pushBlk w e [], ?_, hk w.heap.size (pushBlk w e []) ?_⟩
  · simp [Instr.buildSlice, underlying, hu, sizeOf, typeInfo, h1, Instr.fill, newRow, newObj, Sem.run, pushBlk]
    rw [show Array.range 0 = #[] from by simp]
    simp
  · refine h.made (Ext.push _ _ _ _) (own_local _ _ _ _ _) ⟨by simp, .inr ⟨w.heap.size, 0, #[], rfl, Nat.zero_le _, ?_, Nat.le_refl _, Nat.zero_le _, by simp, by simp⟩⟩ ?_
    · show (w.heap.push _)[w.heap.size]? = _
      rw [Array.getElem?_push, if_pos rfl]
    · intro q hq
      obtain rfl : q = w.heap.size := by simpa [own, Value.ownBlock] using hq
      simp [pushBlk]

theorem over_len {cs vs : List Value} {o : Nat} (h : o + vs.length ≤ cs.length) : (over cs o vs).length = cs.length := by
  simp only [over, List.length_append, List.length_take, List.length_drop]
  omega
theorem over_take {cs vs : List Value} {o n : Nat} (h : o + vs.length ≤ n) (hn : n ≤ cs.length) : (over cs o vs).take n = over (cs.take n) o vs := by
  have e := over_mid [] (cs.take n) (cs.drop n) vs o (by rw [List.length_take]; omega)
  simp only [List.nil_append, List.length_nil, Nat.zero_add, List.take_append_drop] at e
  have hl : (over (cs.take n) o vs).length = n := by rw [over_len (by rw [List.length_take]; omega), List.length_take]; omega
  rw [e, List.take_append_of_le_length (by omega), List.take_of_length_le (by omega)]

theorem St.ownSt (h : St w0 S w H) (i : Nat) {e : TypeId} {size n o b : Nat} {n' c : Nat} {xs vs : List Value} {k : World → Prop} (hi : H[i]? = some (own e size (.slice (some ⟨b, 0, none⟩) n' c) n xs)) (hle : o + vs.length ≤ xs.length) (h1 : vs.all isOne = true)
    (hk : ∀ w', St w0 S w' (H.set i (own e size (.slice (some ⟨b, 0, none⟩) n' c) n (over xs o vs))) → k w') : StC w b o vs k := by
  obtain ⟨h2, ⟨h3, _⟩ | ⟨g, cap, cur, h3, h4, h5, h6, h7, h8, h9⟩⟩ := h.get i hi
  · cases h3
  cases h3
  have hcl : n * size ≤ cur.size := by rw [h8]; exact Nat.mul_le_mul_right _ h6
  have hb : Blk w b e cur.toList := by simpa [Blk] using h5
  have hx : xs.length = n * size := h2
  refine ⟨e, cur.toList, hb, by simp; omega, by simpa using h1, hk _ (h.upd i hi (T := (· = b)) (Ext.set (S := (· = b)) (b := b) rfl e _) (fun q hq => by simp [own, Value.ownBlock, hq]) (own_local _ _ _ _ _) ?_ fun q hq => .inl hq)⟩
  have hov : (over cur.toList o vs).length = cur.size := by
    have hl : o + vs.length ≤ cur.size := by omega
    simp only [over, List.length_append, List.length_take, List.length_drop, Array.length_toList]
    omega
  refine ⟨by simp only [over, List.length_append, List.length_take, List.length_drop]; omega, .inr ⟨b, c, (over cur.toList o vs).toArray, rfl, h4, ?_, h6, h7, by rw [List.size_toArray, hov, h8], ?_⟩⟩
  · have := setBlk_blk (t := e) (cs := over cur.toList o vs) hb.lt
    exact this
  · rw [List.toList_toArray, over_take (by omega) (by simpa using hcl), h9]
end
end Go.Proofs.YtoaghhcjlfiflaaGreatDoor.Ev

namespace Go.Proofs.YtoaghhcjlfiflaaGreatDoor.Ev
open Go
section
variable {P : Program} {τ : Tab} {N d : Nat} {σ : Slots} {w : World} {ops rest : List Oper} {x y : Operand} {v : Value} {ty : TypeId} {pos : String} {after : Array Edge} {Q : Slots → World → Prop}
theorem sPut {k : Slots → Prop} (h : Nat.blt d N = true) (hk : k ((d, v) :: σ)) : put1 N (some d) v σ k := by
  simp only [put1]
  rw [h]
  exact hk
theorem sAsg (hx : ro σ x = some v) (hd : Nat.blt d N = true) (hk : evOpsR P τ N ops Q rest ((d, v) :: σ) w) :
    evOpsR P τ N ops Q (⟨some d, .assign x, ty, pos, after, none⟩ :: rest) σ w := by
  show evStep P τ N ops ⟨some d, .assign x, ty, pos, after, none⟩ (evOpsR P τ N ops Q rest) σ w
  unfold evStep
  simp only [guardK, isPure, ifaces, pureOp, hx, put1, hd]
  exact hk
theorem sMov (hx : ro σ x = some v) (hd : Nat.blt d N = true) (hk : evOpsR P τ N ops Q rest ((d, v) :: σ) w) :
    evOpsR P τ N ops Q (⟨some d, .move x, ty, pos, after, none⟩ :: rest) σ w := by
  show evStep P τ N ops ⟨some d, .move x, ty, pos, after, none⟩ (evOpsR P τ N ops Q rest) σ w
  unfold evStep
  simp only [guardK, isPure, ifaces, pureOp, hx, put1, hd]
  exact hk
theorem sNil {a : Addr} (hx : ro σ x = some (.pointer (some a))) (hd : Nat.blt d N = true) (hk : evOpsR P τ N ops Q rest ((d, .pointer (some a)) :: σ) w) :
    evOpsR P τ N ops Q (⟨some d, .nilCheck x, ty, pos, after, none⟩ :: rest) σ w := by
  show evStep P τ N ops ⟨some d, .nilCheck x, ty, pos, after, none⟩ (evOpsR P τ N ops Q rest) σ w
  unfold evStep
  simp only [guardK, isPure, ifaces, pureOp, hx, put1, hd]
  exact hk
theorem sSt {t b o n : Nat} {kd : TK} {z : List Value} (hx : ro σ x = some (.pointer (some ⟨b, o, none⟩))) (hy : ro σ y = some v) (ht : tl τ t = some ⟨n, kd, z⟩) (hn : Nat.beq (cellsL v).length n = true) (hk : StC w b o (cellsL v) fun w' => evOpsR P τ N ops Q rest σ w') :
    evOpsR P τ N ops Q (⟨none, .store t x y, ty, pos, after, none⟩ :: rest) σ w := by
  show evStep P τ N ops ⟨none, .store t x y, ty, pos, after, none⟩ (evOpsR P τ N ops Q rest) σ w
  unfold evStep
  simp only [guardK, isPure, worldOp, hx, hy, ht, hn, put1]
  exact hk
theorem sBox {t : TypeId} (hx : ro σ x = some v) (hd : Nat.blt d N = true) (hk : NewC w t (cellsL v) fun v w => evOpsR P τ N ops Q rest ((d, v) :: σ) w) :
    evOpsR P τ N ops Q (⟨some d, .box t x, ty, pos, after, none⟩ :: rest) σ w := by
  show evStep P τ N ops ⟨some d, .box t x, ty, pos, after, none⟩ (evOpsR P τ N ops Q rest) σ w
  unfold evStep
  simp only [guardK, isPure, worldOp, hx, put1, hd]
  exact hk
theorem sBuild {t : TypeId} {parts : Array (Nat × Operand)} {ps : List (Nat × Value)} {n : Nat} {fs : List (Nat × Nat × Bool)} (ht : tl τ t = some ⟨n, .struct fs, []⟩) (hp : ∀ k : List (Nat × Value) → Prop, k ps → roParts σ parts.toList k) (hr : ∀ w, (Instr.build t ps.toArray).run P w = .ok v w) (hd : Nat.blt d N = true) (hk : evOpsR P τ N ops Q rest ((d, v) :: σ) w) :
    evOpsR P τ N ops Q (⟨some d, .build t parts, ty, pos, after, none⟩ :: rest) σ w := by
  show evStep P τ N ops ⟨some d, .build t parts, ty, pos, after, none⟩ (evOpsR P τ N ops Q rest) σ w
  unfold evStep
  simp only [guardK, isPure, ifaces, pureOp, ht]
  refine hp _ ?_
  refine PureC.of hr ?_
  exact sPut hd hk
theorem eNil (h : Q σ w) : evOpsR P τ N ops Q [] σ w := h
theorem eNext {K : EV} {Q : EQ} (h : K Q σ w) : seqQ K Q .normal σ w := h
theorem eSeq {a b : Code} {Q : EQ} (h : evR P τ N a (seqQ (evR P τ N b) Q) σ w) : evR P τ N (.seq a b) Q σ w := h
theorem eReg {id : Nat} {ops : Array Oper} {Q : EQ} (h : evOpsR P τ N ops.toList (Q .normal) ops.toList σ w) : evR P τ N (.region id ops false) Q σ w := h
end

theorem St.stX {w0 w : World} {S : Nat → Prop} {H : List Ent} (h : St w0 S w H) (i : Nat) {b o : Nat} {t : TypeId} {cs vs : List Value} {k : World → Prop} (hi : H[i]? = some (Ev.blk b t cs)) (hle : o + vs.length ≤ cs.length) (h1 : vs.all isOne = true)
    (hk : ∀ w', Ext (· = b) w w' → St w0 S w' (H.set i (Ev.blk b t (over cs o vs))) → k w') : StC w b o vs k := by
  have hb := h.blk i hi
  have hx : Ext (· = b) w (setBlk w b t (over cs o vs)) := Ext.set (S := (· = b)) (b := b) rfl t _
  exact ⟨t, cs, hb, hle, by simpa using h1, hk _ hx (h.upd i hi (T := (· = b)) hx (fun c hc => by simp [Ev.blk, hc]) (blk_local _ _ _) (setBlk_blk hb.lt) (fun c hc => .inl hc))⟩

theorem index_run {α : Type} {P : Program} {sz : Nat} {enc : α → List Value} (C : Codec sz enc) {t e : TypeId} {xs : List α} {k : Nat} {x : α} {i : Int} (hu : P.underlying t = some (.array xs.length e)) (hi : (P.info? e).isSome = true) (hd : ∃ d, P.underlying e = some d) (hc : P.cellsOf e = sz) (hg : aggB P e = true) (hx : xs[k]? = some x) (hk : i = (k : Int)) (w : World) :
    (Instr.index t (.agg (xs.flatMap enc).toArray) (.int .i64 i)).run P w = .ok (.agg (enc x).toArray) w := by
  subst hk
  have hlt := (List.getElem?_eq_some_iff.1 hx).1
  have hs : k * sz + sz ≤ (xs.flatMap enc).length := by
    rw [flat_len C]
    have : (k + 1) * sz ≤ xs.length * sz := Nat.mul_le_mul_right _ hlt
    rw [Nat.succ_mul] at this
    exact this
  have h1 := part_run (P := P) (cs := xs.flatMap enc) (off := k * sz) hi hd hc hs hg w
  have h2 := flat_sub C (j := 0) (n := sz) hx (by omega)
  have h3 : (enc x).take sz = enc x := List.take_of_length_le (by rw [C.len]; exact Nat.le_refl _)
  rw [Nat.add_zero, List.drop_zero, h3] at h2
  rw [h2] at h1
  have hcw := cellsOf_run (P := P) hi w
  rw [hc] at hcw
  simp [Instr.index, underlying, hu, asIntOf, asAgg, hcw, h1, hlt]
end Go.Proofs.YtoaghhcjlfiflaaGreatDoor.Ev

namespace Go.Proofs.YtoaghhcjlfiflaaGreatDoor.Ev
open Go

inductive OT where
  | fin
  | take (i : Nat) (r : OT)
  | alt (i : Nat) (r : OT) (more : OT)

def OT.heads : OT → List Nat
  | .alt i _ m => i :: m.heads
  | _ => []

def evOne (P : Program) (τ : Tab) (N : Nat) (ops : Array Oper) (late : List Nat) (S : World → Prop) (i : Nat) (K : Slots → World → Prop) (σ : Slots) (w : World) : Prop :=
  match nthO ops.toList i with
  | some ⟨dst, op, _, _, _, g⟩ => guardK N ops.toList g σ
      (fun σ => match isPure op with
        | true => pureOp P τ σ op fun v => put1 N dst v σ fun σ => K σ w
        | false => match floats late i op with
          | true => (match op with
            | .load t x => match ro σ x, tl τ t with
              | some (.pointer (some ⟨b, o, none⟩)), some ⟨n, kd, _⟩ => (match kd.agg with
                | true => LdG S b o n fun v => put1 N dst v σ fun σ => K σ w
                | false => LdF S b o fun v => put1 N dst v σ fun σ => K σ w)
              | _, _ => False
            | _ => False)
          | false => worldOp P τ σ op w fun v w => KeepC (S w) (put1 N dst v σ fun σ => K σ w))
      (fun σ => put1 N dst undef σ fun σ => K σ w)
  | none => False

def evTree (P : Program) (τ : Tab) (N : Nat) (ops : Array Oper) (late : List Nat) (S : World → Prop) : OT → (Slots → World → Prop) → Slots → World → Prop
  | .fin, Q, σ, w => Q σ w
  | .take i r, Q, σ, w => evOne P τ N ops late S i (fun σ w => evTree P τ N ops late S r Q σ w) σ w
  | .alt i r .fin, Q, σ, w => evOne P τ N ops late S i (fun σ w => evTree P τ N ops late S r Q σ w) σ w
  | .alt i r m, Q, σ, w => evOne P τ N ops late S i (fun σ w => evTree P τ N ops late S r Q σ w) σ w ∧ evTree P τ N ops late S m Q σ w

def fl (ops : Array Oper) (late : List Nat) (i : Nat) : Bool := match ops[i]? with
  | some o => floats late i o.op
  | none => false

def treeOk (ops : Array Oper) (late : List Nat) : OT → Nat → Bool → Array Bool → Bool
  | .fin, n, chain, listed => chain || (Nat.beq n 0 && (Region.ready .any ops listed).isEmpty)
  | .take i r, n + 1, chain, listed => !chain && fl ops late i && Region.free .any ops listed i && (Region.ready .any ops listed).contains i && treeOk ops late r n false (listed.setIfInBounds i true)
  | .alt i r m, n + 1, chain, listed => (chain || Region.ready .any ops listed == i :: m.heads) && (ops[i]?).isSome && !fl ops late i && treeOk ops late r n false (listed.setIfInBounds i true) && treeOk ops late m (n + 1) true listed
  | _, 0, _, _ => false

section
variable {P : Program} {τ : Tab} {N : Nat}

theorem one_take (hτ : TabOk P τ) {ops : Array Oper} {late : List Nat} {S : World → Prop} {R : Exit → Act → World → Prop} (hs : Region.noSelect ops = true) (hR : ∀ c a w, ¬ R (.panic c) a w) {i fuel : Nat} {listed : Array Bool} {K : Slots → World → Prop} {σ : Slots} {a : Act} {w : World}
    (hf : Fits N σ a) (hS : S w) (h0 : fl ops late i = true) (h1 : Region.free .any ops listed i = true) (h2 : (Region.ready .any ops listed).contains i = true) (h : evOne P τ N ops late S i K σ w)
    (hK : ∀ σ a, Fits N σ a → K σ w → wpAnyH P .any ops R S fuel (listed.setIfInBounds i true) a w) : wpAnyH P .any ops R S (fuel + 1) listed a w := by
  unfold evOne at h
  rw [nthO_eq] at h
  cases ho : ops[i]? with
  | none =>
    have : ops.toList[i]? = none := by simpa using ho
    rw [this] at h; exact h.elim
  | some o =>
    have hol : ops.toList[i]? = some o := by simpa using ho
    rw [hol] at h
    unfold fl at h0
    rw [ho] at h0
    obtain ⟨dst, op, ty, pos, after, g⟩ := o
    simp only at h h0
    have take : ∀ (v : Value), YieldsIf P ops S ⟨dst, op, ty, pos, after, g⟩ v a → wpAnyH P .any ops R S fuel (listed.setIfInBounds i true) (a.put dst v) w → wpAnyH P .any ops R S (fuel + 1) listed a w := by
      intro v hy hgo
      exact wpAnyH_take (oi := ⟨dst, op, ty, pos, after, g⟩) ho hs h1 h2 (fun c a w hc => absurd hc (hR c _ w)) hy hS hgo
    rcases guard_sound (o := ⟨dst, op, ty, pos, after, g⟩) hf h with ⟨hw, σ', hf', h2⟩ | ⟨hw, σ', hf', h2⟩
    · cases hp : isPure op with
      | true =>
        rw [hp] at h2
        obtain ⟨v, hv, h3⟩ := pure_sound (o := ⟨dst, op, ty, pos, after, g⟩) hτ hf' h2
        obtain ⟨σ'', hf'', h4⟩ := put1_sound hf' h3
        exact take v (.inl ⟨hw, fun w _ => hv w⟩) (hK σ'' _ hf'' h4)
      | false =>
        rw [hp] at h2
        simp only at h2
        rw [h0] at h2
        simp only at h2
        split at h2
        · rename_i t x
          split at h2
          · rename_i b o n kd z hx ht
            have hyield : ∃ v, (∀ w, S w → (Instr.loadAt t (.pointer (some ⟨b, o, none⟩))).run P w = .ok v w) ∧ put1 N dst v σ' fun σ => K σ w := by
              cases hk : kd.agg with
              | true =>
                rw [hk] at h2
                obtain ⟨l, hl, hc, hv⟩ := h2.ex
                refine ⟨_, fun w' hw' => ?_, hv⟩
                obtain ⟨v, hr, hv⟩ := load_sound (P := P) (w := w') (b := b) (o := o) (k := fun v => v = .agg l.toArray) hτ ht (by rw [hk]; exact ⟨l, hl, hc w' hw', rfl⟩)
                rw [hr, hv]
              | false =>
                rw [hk] at h2
                obtain ⟨v, hc, hv⟩ := h2.ex
                refine ⟨v, fun w' hw' => ?_, hv⟩
                obtain ⟨u, hr, hu⟩ := load_sound (P := P) (w := w') (b := b) (o := o) (k := fun u => u = v) hτ ht (by rw [hk]; exact ⟨v, hc w' hw', rfl⟩)
                rw [hr, hu]
            obtain ⟨v, hv, h3⟩ := hyield
            obtain ⟨σ'', hf'', h4⟩ := put1_sound hf' h3
            refine take v (.inl ⟨hw, fun w' hw' => ?_⟩) (hK σ'' _ hf'' h4)
            simp only [execOp, ro_eval hf' hx]
            exact vrun (hv w' hw')
          · exact h2.elim
        · exact h2.elim
    · obtain ⟨σ'', hf'', h4⟩ := put1_sound hf' h2
      exact take undef (.inr ⟨hw, rfl⟩) (hK σ'' _ hf'' h4)

theorem one_alt (hτ : TabOk P τ) {ops : Array Oper} {late : List Nat} {S : World → Prop} {R : Exit → Act → World → Prop} {i fuel : Nat} {listed : Array Bool} {K : Slots → World → Prop} {σ : Slots} {a : Act} {w : World}
    (hf : Fits N σ a) (hS : S w) (h0 : fl ops late i = false) (h : evOne P τ N ops late S i K σ w)
    (hK : ∀ σ a w, Fits N σ a → S w → K σ w → wpAnyH P .any ops R S fuel (listed.setIfInBounds i true) a w) : wpOp P ops R i (fun a' w' => S w' ∧ wpAnyH P .any ops R S fuel (listed.setIfInBounds i true) a' w') a w := by
  unfold evOne at h
  rw [nthO_eq] at h
  cases ho : ops[i]? with
  | none =>
    have : ops.toList[i]? = none := by simpa using ho
    rw [this] at h; exact h.elim
  | some o =>
    have hol : ops.toList[i]? = some o := by simpa using ho
    rw [hol] at h
    unfold fl at h0
    rw [ho] at h0
    obtain ⟨dst, op, ty, pos, after, g⟩ := o
    simp only at h h0
    unfold wpOp
    rw [ho]
    rcases guard_sound (o := ⟨dst, op, ty, pos, after, g⟩) hf h with ⟨hw, σ', hf', h2⟩ | ⟨hw, σ', hf', h2⟩
    · cases hp : isPure op with
      | true => simp [floats, hp] at h0
      | false =>
        rw [hp] at h2
        simp only at h2
        rw [h0] at h2
        simp only at h2
        simp only [hw, if_true]
        refine .inl (Oper.wp_mono ?_ (world_sound (o := ⟨dst, op, ty, pos, after, g⟩) hτ hf' h2 R))
        rintro a' w' ⟨v, rfl, h3⟩
        obtain ⟨σ'', hf'', h4⟩ := put1_sound hf' h3.go
        exact ⟨h3.keep, hK σ'' _ w' hf'' h3.keep h4⟩
    · obtain ⟨σ'', hf'', h4⟩ := put1_sound hf' h2
      simp only [hw, Bool.false_eq_true, if_false]
      exact ⟨hS, hK σ'' _ w hf'' hS h4⟩

theorem tree_sound (hτ : TabOk P τ) {ops : Array Oper} {late : List Nat} {S : World → Prop} {Q : Slots → World → Prop} {R : Exit → Act → World → Prop} (hs : Region.noSelect ops = true) (hR : ∀ c a w, ¬ R (.panic c) a w) (hQ : ∀ a w σ, Fits N σ a → Q σ w → R .normal a w) :
    ∀ (tr : OT) (n : Nat) (listed : Array Bool) (σ : Slots) (a : Act) (w : World), Fits N σ a → S w →
      (treeOk ops late tr n false listed = true → evTree P τ N ops late S tr Q σ w → wpAnyH P .any ops R S n listed a w) ∧
      (∀ m, n = m + 1 → treeOk ops late tr n true listed = true → (tr = .fin ∨ evTree P τ N ops late S tr Q σ w) → ∀ i ∈ tr.heads, wpOp P ops R i (fun a' w' => S w' ∧ wpAnyH P .any ops R S m (listed.setIfInBounds i true) a' w') a w)
  | .fin, n, listed, σ, a, w, hf, hS => by
    refine ⟨fun hok h => ?_, fun m hm hok h i hi => by cases hi⟩
    cases n with
    | succ n => simp [treeOk] at hok
    | zero =>
      simp only [treeOk, Bool.false_or, Bool.and_eq_true, List.isEmpty_iff] at hok
      exact ⟨hok.2, hQ a w σ hf h⟩
  | .take i r, n, listed, σ, a, w, hf, hS => by
    cases n with
    | zero => exact ⟨fun hok => by simp [treeOk] at hok, fun m hm => by omega⟩
    | succ n =>
      refine ⟨fun hok h => ?_, fun m hm hok => by simp [treeOk] at hok⟩
      simp only [treeOk, Bool.not_false, Bool.true_and, Bool.and_eq_true] at hok
      obtain ⟨⟨⟨h0, h1⟩, h2⟩, h3⟩ := hok
      unfold evTree at h
      exact one_take hτ hs hR hf hS h0 h1 h2 h fun σ a hf hk => (tree_sound hτ hs hR hQ r n _ σ a w hf hS).1 h3 hk
  | .alt i r m, n, listed, σ, a, w, hf, hS => by
    cases n with
    | zero => exact ⟨fun hok => by simp [treeOk] at hok, fun m hm => by omega⟩
    | succ n =>
      have key : ∀ chain, treeOk ops late (.alt i r m) (n + 1) chain listed = true → evTree P τ N ops late S (.alt i r m) Q σ w → ∀ j ∈ (OT.alt i r m).heads, wpOp P ops R j (fun a' w' => S w' ∧ wpAnyH P .any ops R S n (listed.setIfInBounds j true) a' w') a w := by
        intro chain hok h j hj
        simp only [treeOk, Bool.and_eq_true, Bool.not_eq_true'] at hok
        obtain ⟨⟨⟨⟨_, _⟩, h0⟩, h3⟩, h4⟩ := hok
        have hb : evOne P τ N ops late S i (fun σ w => evTree P τ N ops late S r Q σ w) σ w ∧ (m = .fin ∨ evTree P τ N ops late S m Q σ w) := by
          cases m with
          | fin => unfold evTree at h; exact ⟨h, .inl rfl⟩
          | take i' r' => unfold evTree at h; exact ⟨h.1, .inr h.2⟩
          | alt i' r' m' => unfold evTree at h; exact ⟨h.1, .inr h.2⟩
        simp only [OT.heads, List.mem_cons] at hj
        rcases hj with rfl | hj
        · exact one_alt hτ hf hS h0 hb.1 fun σ a w hf hS hk => (tree_sound hτ hs hR hQ r n _ σ a w hf hS).1 h3 hk
        · exact (tree_sound hτ hs hR hQ m (n + 1) listed σ a w hf hS).2 n rfl h4 hb.2 j hj
      refine ⟨fun hok h => ?_, fun m' hm hok h => ?_⟩
      · have hr : Region.ready .any ops listed = (OT.alt i r m).heads := by
          simp only [treeOk, Bool.false_or, Bool.and_eq_true, beq_iff_eq] at hok
          exact hok.1.1.1.1
        exact wpAnyH_all hr (by simp [OT.heads]) (key false hok h)
      · obtain rfl : n = m' := by omega
        rcases h with h | h
        · cases h
        · exact key true hok h

def evTreeR (P : Program) (τ : Tab) (N : Nat) (ops : Array Oper) (late : List Nat) (S : World → Prop) (Q : Slots → World → Prop) (t : OT) : Slots → World → Prop :=
  OT.rec (motive := fun _ => Slots → World → Prop) Q (fun i _ ih => evOne P τ N ops late S i ih) (fun i _ m ih im σ w => match m with | .fin => evOne P τ N ops late S i ih σ w | _ => evOne P τ N ops late S i ih σ w ∧ im σ w) t
theorem evTreeR_eq (P : Program) (τ : Tab) (N : Nat) (ops : Array Oper) (late : List Nat) (S : World → Prop) (Q : Slots → World → Prop) : ∀ t : OT, evTreeR P τ N ops late S Q t = fun σ w => evTree P τ N ops late S t Q σ w
  | .fin => by funext σ w; unfold evTree; rfl
  | .take i r => by
    have ih := evTreeR_eq P τ N ops late S Q r
    show evOne P τ N ops late S i (evTreeR P τ N ops late S Q r) = _
    rw [ih]
    funext σ w
    rw [evTree]
  | .alt i r m => by
    have ih := evTreeR_eq P τ N ops late S Q r
    have im := evTreeR_eq P τ N ops late S Q m
    funext σ w
    show (match m with | .fin => evOne P τ N ops late S i (evTreeR P τ N ops late S Q r) σ w | _ => evOne P τ N ops late S i (evTreeR P τ N ops late S Q r) σ w ∧ evTreeR P τ N ops late S Q m σ w) = _
    rw [ih, im]
    cases m <;> rw [evTree]
    all_goals intro h; cases h

theorem drawT (hτ : TabOk P τ) (hm : P.follows .mixedOrders = true) {σ : Slots} {w : World} {ops : Array Oper} {Q : Slots → World → Prop} (late : List Nat) (T : Nat → Prop) (tr : OT)
    (hok : (Region.noSelect ops && treeOk ops late tr ops.size false (Array.replicate ops.size false)) = true)
    (h : ∀ w1, w1 = { w with drawn := w.drawn + 1 } → evTreeR P τ N ops late (Ext T w1) Q tr σ w1) : DrawC P τ N ops Q σ w := by
  replace h : ∀ w1, w1 = { w with drawn := w.drawn + 1 } → evTree P τ N ops late (Ext T w1) tr Q σ w1 := fun w1 h1 => by have := h w1 h1; rwa [evTreeR_eq] at this
  simp only [Bool.and_eq_true] at hok
  refine ⟨fun id a hf => ?_⟩
  refine wp_region_held (S := Ext T { w with drawn := w.drawn + 1 }) hm ?_
  exact (tree_sound (R := fun e a' w' => e = .normal ∧ ∃ σ', Fits N σ' a' ∧ Q σ' w') hτ hok.1 (by rintro c a w ⟨h, _⟩; cases h) (fun a w σ hf hq => ⟨rfl, σ, hf, hq⟩) tr _ _ σ a _ hf (Ext.refl _ _)).1 hok.2 (h _ rfl)
end

end Go.Proofs.YtoaghhcjlfiflaaGreatDoor.Ev

namespace Go.Proofs.YtoaghhcjlfiflaaGreatDoor.Ev
open Go

section
variable {P : Program} {τ : Tab} {N : Nat} {σ σ' : Slots} {w : World} {Q : EQ}

end
end Go.Proofs.YtoaghhcjlfiflaaGreatDoor.Ev
namespace Go.Proofs.YtoaghhcjlfiflaaGreatDoor.Ev
open Go
theorem St.updMade {w0 w w' : World} {S T : Nat → Prop} {H : List Ent} (h : St w0 S w H) (i : Nat) {e e' f : Ent} (hi : H[i]? = some e) (k : Ext T w w') (hT : ∀ b, T b → b ∈ e.foot) (hl : e'.Local) (hh : e'.holds w') (hf : ∀ b ∈ e'.foot, b ∈ e.foot) (gl : f.Local) (gh : f.holds w') (gf : ∀ b ∈ f.foot, w.heap.size ≤ b ∧ b < w'.heap.size) : St w0 S w' (H.set i e' ++ [f]) := by
  refine (h.upd i hi k hT hl hh fun b hb => .inl (hf b hb)).add gl gh (fun b hb => ⟨.inr (Nat.le_trans h.ext.size (gf b hb).1), (gf b hb).2⟩) ?_
  intro q hq b hb hb'
  have lt : b < w.heap.size := by
    rcases List.mem_or_eq_of_mem_set hq with hq | rfl
    · exact (h.may q hq b hb).2
    · exact (h.may e (List.mem_of_getElem? hi) b (hf b hb)).2
  have := (gf b hb').1
  omega
end Go.Proofs.YtoaghhcjlfiflaaGreatDoor.Ev

namespace Go.Proofs.YtoaghhcjlfiflaaGreatDoor.Ev
open Go

def bs (l : List UInt8) : ByteArray := ⟨l.toArray⟩
theorem bs_inj {a b : List UInt8} : bs a = bs b ↔ a = b := by
  constructor
  · intro h
    have := congrArg (fun s => s.data.toList) h
    simpa [bs] using this
  · rintro rfl; rfl
theorem bs_size (l : List UInt8) : (bs l).size = l.length := by simp [bs, ByteArray.size]
theorem bs_append (a b : List UInt8) : bs a ++ bs b = bs (a ++ b) := by
  apply ByteArray.ext
  simp [bs, ByteArray.data_append]
theorem bs_extract (l : List UInt8) (a b : Nat) : (bs l).extract a b = bs ((l.drop a).take (b - a)) := ByteArray.extract_mk l a b
def encU (x : UInt8) : List Value := [.int .u8 (x.toNat : Int)]
theorem codU : Codec 1 encU := ⟨fun _ => rfl, fun _ => rfl, by decide⟩

section
variable {P : Program} {k : Value → Prop} {l : List UInt8} {t : TypeId}
theorem idxS {kd : IntKind} {i : Int} {j : Nat} {x : UInt8} (hu : P.underlying t = some .string) (hi : i = (j : Int)) (hx : l[j]? = some x) (hk : k (.int .u8 (x.toNat : Int))) : PureC P (Instr.index t (.string (bs l)) (.int kd i)) k := by
  subst hi
  refine PureC.of (fun w => ?_) hk
  have lt := (List.getElem?_eq_some_iff.1 hx).1
  rw [run_index_string w t (bs l) kd j hu, dif_pos ⟨by omega, by rw [bs_size]; omega⟩]
  congr 1
  have : (bs l)[j]? = some x := by
    rw [ByteArray.getElem?_lt' _ _ (by rw [bs_size]; exact lt)]
    show some ((bs l).data[j]) = _
    rw [← hx, List.getElem?_eq_getElem lt]
    simp [bs]
  have h2 : (bs l)[j]'(by rw [bs_size]; exact lt) = x := by
    rw [ByteArray.getElem?_lt' _ _ (by rw [bs_size]; exact lt)] at this
    exact Option.some.inj this
  simp [h2]
theorem slc_at (hu : P.underlying t = some .string) (x : Value) (lo hi : Option Value) (w : World) : (Instr.sliceAt t x lo hi none).run P w = (Instr.slice t x lo hi none).run P w := by
  unfold Instr.sliceAt
  rw [Sem.run_bind, run_underlying hu, Result.andThen_ok]
theorem slcS {q q' : IntKind} {i j : Int} {a b : Nat} {r : List UInt8} (hu : P.underlying t = some .string) (hi : i = (a : Int)) (hj : j = (b : Int)) (hab : a ≤ b) (hb : b ≤ l.length) (hr : (l.drop a).take (b - a) = r) (hk : k (.string (bs r))) : PureC P (Instr.sliceAt t (.string (bs l)) (some (.int q i)) (some (.int q' j)) none) k := by
  subst hi hj hr
  refine PureC.of (fun w => ?_) hk
  rw [slc_at hu, run_slice_string w t (bs l) q q' a b hu (by omega) (by omega) (by rw [bs_size]; omega), bs_extract]
  rfl
theorem slcTo {q' : IntKind} {j : Int} {b : Nat} {r : List UInt8} (hu : P.underlying t = some .string) (hj : j = (b : Int)) (hb : b ≤ l.length) (hr : l.take b = r) (hk : k (.string (bs r))) : PureC P (Instr.sliceAt t (.string (bs l)) none (some (.int q' j)) none) k := by
  subst hj hr
  refine PureC.of (fun w => ?_) hk
  rw [slc_at hu, run_slice_string_to_if w t (bs l) q' b hu, if_pos ⟨by omega, by rw [bs_size]; omega⟩, bs_extract]
  rfl
theorem addS {a b : List UInt8} (h : a.length + b.length ≤ 1000000) (hk : k (.string (bs (a ++ b)))) : PureC P (Go.binOp .add t (.string (bs a)) (.string (bs b))) k :=
  PureC.of (fun w => by
    rw [show Go.binOp .add t (.string (bs a)) (.string (bs b)) = Op.stringOp .add (bs a) (bs b) from rfl, run_string_add_sum w _ _ (by rw [bs_size, bs_size]; omega), bs_append]) hk
theorem eqS2 {a b : List UInt8} (hk : k (.bool (decide (a = b)))) : PureC P (Go.binOp .eql t (.string (bs a)) (.string (bs b))) k := eqStr (by
  have : decide (bs a = bs b) = decide (a = b) := by simp only [bs_inj]
  rw [this]; exact hk)
theorem convI {s d : TypeId} {q : IntKind} {n m : Int} {kd : IntKind} (hs : (P.underlying s).isSome = true) (hd : P.underlying d = some (.int kd)) (hw : kd.wrap n = m) {w : World} {kk : Value → World → Prop} (hk : kk (.int kd m) w) : RunC P (Go.convert s d (.int q n)) w kk := by
  have hk2 : P.intKind d = kd := by unfold Program.intKind; rw [hd]
  exact ⟨_, _, by rw [run_convert_int w s d q n hs (by rw [hk2]; exact hd), hk2, hw], hk⟩
theorem shrC {kd yk : IntKind} {a : Int} {n : Nat} {y : Int} (hy : y = (n : Int)) (hn : n ≤ kd.bits) (hk : k (.int kd (a / 2 ^ n))) : PureC P (Go.binOp .shr t (.int kd a) (.int yk y)) k := by
  subst hy
  refine PureC.of (fun w => ?_) hk
  show (Op.shift .shr kd a yk n).run P w = _
  unfold Op.shift
  rw [if_neg (by omega)]
  simp only [Int.toNat_natCast, Nat.min_eq_left hn]
  rw [show ((2 : Int) ^ n) = ((2 ^ n : Nat) : Int) by simp, Int.fdiv_eq_ediv_of_nonneg _ (by exact Int.natCast_nonneg _)]
  rfl
theorem shrN {kd yk : IntKind} {a n : Nat} {y : Int} (hy : y = (n : Int)) (hn : n ≤ kd.bits) (hk : k (.int kd ((a / 2 ^ n : Nat) : Int))) : PureC P (Go.binOp .shr t (.int kd (a : Int)) (.int yk y)) k :=
  shrC hy hn (by
    have : ((a : Int) / 2 ^ n) = ((a / 2 ^ n : Nat) : Int) := by simp
    rw [this]; exact hk)
theorem shlC {kd yk : IntKind} {a : Int} {n : Nat} {y m : Int} (hy : y = (n : Int)) (hn : n ≤ kd.bits) (hw : kd.wrap (a * 2 ^ n) = m) (hk : k (.int kd m)) : PureC P (Go.binOp .shl t (.int kd a) (.int yk y)) k := by
  subst hy hw
  refine PureC.of (fun w => ?_) hk
  show (Op.shift .shl kd a yk n).run P w = _
  unfold Op.shift
  rw [if_neg (by omega)]
  simp only [Int.toNat_natCast, Nat.min_eq_left hn]
  rfl
theorem bitsC {op : BinOp} {kd : IntKind} {a b r : Int} (ho : op = .xor ∨ op = .or ∨ op = .and ∨ op = .andNot) (hr : ∀ w, (Op.intBits op kd a b).run P w = .ok (.int kd r) w) (hk : k (.int kd r)) : PureC P (Go.binOp op t (.int kd a) (.int kd b)) k :=
  PureC.of (fun w => by
    rw [← hr w]
    rcases ho with rfl | rfl | rfl | rfl <;> simp [Go.binOp]) hk
theorem neC {kd : IntKind} {a b : Int} (hk : k (.bool (a != b))) : PureC P (Go.binOp .neq t (.int kd a) (.int kd b)) k :=
  PureC.of (fun w => by simp [Go.binOp, Op.intCmp]) hk
theorem orC64 {a b : Nat} (ha : a < 2 ^ 63) (hb : b < 2 ^ 63) (hk : k (.int .i64 ((a ||| b : Nat) : Int))) : PureC P (Go.binOp .or t (.int .i64 (a : Int)) (.int .i64 (b : Int))) k :=
  PureC.of (fun w => by
    have hx : a ||| b < 2 ^ 63 := Nat.or_lt_two_pow ha hb
    rw [show Go.binOp .or t (.int .i64 (a : Int)) (.int .i64 (b : Int)) = Op.intBits .or .i64 (a : Int) (b : Int) by simp [Go.binOp]]
    show (pure (Value.int .i64 (IntKind.i64.wrap ((BitVec.ofInt 64 (a : Int) ||| BitVec.ofInt 64 (b : Int)).toNat : Int))) : Sem Value).run P w = _
    rw [BitVec.toNat_or, BitVec.ofInt_natCast, BitVec.ofInt_natCast, BitVec.toNat_ofNat, BitVec.toNat_ofNat, Nat.mod_eq_of_lt (by omega), Nat.mod_eq_of_lt (by omega), IntKind.wrap_i64]
    rw [show ((((a ||| b : Nat) : Int)) + 9223372036854775808) % 18446744073709551616 - 9223372036854775808 = ((a ||| b : Nat) : Int) by omega]
    rfl) hk
theorem xorC32 {a b : Nat} (ha : a < 4294967296) (hb : b < 4294967296) (hk : k (.int .u32 ((a ^^^ b : Nat) : Int))) : PureC P (Go.binOp .xor t (.int .u32 (a : Int)) (.int .u32 (b : Int))) k :=
  bitsC (.inl rfl) (fun w => by rw [← u32_xor_nat a b ha hb]; rfl) hk
theorem andC32 {a b : Nat} (ha : a < 4294967296) (hb : b < 4294967296) (hk : k (.int .u32 ((a &&& b : Nat) : Int))) : PureC P (Go.binOp .and t (.int .u32 (a : Int)) (.int .u32 (b : Int))) k :=
  bitsC (.inr (.inr (.inl rfl))) (fun w => by rw [← u32_and_nat a b ha hb]; rfl) hk
theorem mulC32 {a b : Nat} (h : a * b < 4294967296) (hk : k (.int .u32 ((a * b : Nat) : Int))) : PureC P (Go.binOp .mul t (.int .u32 (a : Int)) (.int .u32 (b : Int))) k :=
  PureC.of (fun w => by
    rw [show Go.binOp .mul t (.int .u32 (a : Int)) (.int .u32 (b : Int)) = Op.intArith .mul .u32 (a : Int) (b : Int) by simp [Go.binOp]]
    show (pure (Value.int .u32 (IntKind.u32.wrap ((a : Int) * (b : Int)))) : Sem Value).run P w = _
    rw [IntKind.wrap_u32', show ((a : Int) * (b : Int)) = ((a * b : Nat) : Int) by simp, show (((a * b : Nat) : Int)) % 4294967296 = ((a * b : Nat) : Int) by omega]
    rfl) hk
theorem notC32 {a : Nat} (ha : a < 4294967296) (hk : k (.int .u32 ((4294967295 ^^^ a : Nat) : Int))) : PureC P (Op.unary .xor (.int .u32 (a : Int))) k :=
  PureC.of (fun w => by
    rw [← u32_xor_nat 4294967295 a (by omega) ha]; rfl) hk

theorem strC {w : World} {src dst e : TypeId} {b o n c : Nat} {kk : Value → World → Prop} (hs : P.underlying src = some (.slice e)) (he : P.underlying e = some (.int .u8)) (hd : P.underlying dst = some .string) (hc : CellsAt w b o (l.flatMap encU)) (hl : l.length = n) (hk : kk (.string (bs l)) w) :
    RunC P (Go.convert src dst (.slice (some ⟨b, o, none⟩) n c)) w kk := by
  refine ⟨_, _, run_convert_bytes_arg w src e hs he b o n c (l.map fun x => (x.toNat : Int)) (by simpa using hl) (fun i hi => ?_) dst hd, ?_⟩
  · have hlt : i < l.length := by omega
    have := hc i (.int .u8 (l[i].toNat : Int)) (by
      have := flat_get codU (j := 0) (List.getElem?_eq_getElem hlt) rfl
      simpa [encU] using this)
    rw [this]
    simp [List.getD, hlt]
  · have : strOfNums (l.map fun x => (x.toNat : Int)) = bs l := by
      unfold strOfNums bs
      congr 2
      rw [List.map_map]
      conv => rhs; rw [← List.map_id l]
      apply List.map_congr_left
      intro x _
      simp
    rw [this]
    exact hk
theorem made_rep (v : Value) (n : Nat) : (madeCells #[v] n).toList = List.replicate n v := by
  unfold madeCells
  apply List.ext_getElem?
  intro i
  by_cases h : i < n
  · simp [h, Nat.mod_one]
  · simp [h]
end
end Go.Proofs.YtoaghhcjlfiflaaGreatDoor.Ev
namespace Go.Proofs.YtoaghhcjlfiflaaGreatDoor
open Go Ev
theorem Ev.ldc {w : World} {b o : Nat} {v : Value} {k : Value → Prop} (hc : w.cell? ⟨b, o, none⟩ = some v) (hk : k v) : LdC w b o k := ⟨v, hc, hk⟩
theorem Ev.lac {w : World} {b o n : Nat} {l : List Value} {k : Value → Prop} (hn : l.length = n) (hc : CellsAt w b o l) (hk : k (.agg l.toArray)) : LdA w b o n k := ⟨l, hn, hc, hk⟩
theorem Ev.ldFc {w : World} {T : Nat → Prop} {b o : Nat} {v : Value} {k : Value → Prop} (hc : w.cell? ⟨b, o, none⟩ = some v) (hT : ¬ T b) (hk : k v) : LdF (Ext T w) b o k := ⟨v, fun _ hw => hw.cell hc hT, hk⟩
theorem Ev.laFc {w : World} {T : Nat → Prop} {b o n : Nat} {l : List Value} {k : Value → Prop} (hn : l.length = n) (hc : CellsAt w b o l) (hT : ¬ T b) (hk : k (.agg l.toArray)) : LdG (Ext T w) b o n k := ⟨l, hn, fun _ hw => hw.cells hc hT, hk⟩

theorem Ev.St.ownX {w0 w : World} {S : Nat → Prop} {H : List Ent} (h : St w0 S w H) (i : Nat) {e : TypeId} {size n o b : Nat} {n' c : Nat} {xs vs : List Value} {k : World → Prop} (hi : H[i]? = some (own e size (.slice (some ⟨b, 0, none⟩) n' c) n xs)) (hle : o + vs.length ≤ xs.length) (h1 : vs.all isOne = true)
    (hk : ∀ w', Ext (· = b) w w' → St w0 S w' (H.set i (own e size (.slice (some ⟨b, 0, none⟩) n' c) n (over xs o vs))) → k w') : StC w b o vs k := by
  obtain ⟨t, cs, hb, hl, ho, _⟩ := (h.ownSt i hi hle h1 (k := fun _ => True) fun _ _ => trivial).ex
  have h2 := h.ownSt i hi hle h1 (k := fun w' => Ext (· = b) w w' → k w') fun w' hS hx => hk w' hx hS
  obtain ⟨t', cs', hb', hl', ho', hk'⟩ := h2.ex
  exact ⟨t', cs', hb', hl', ho', hk' (Ext.set (S := (· = b)) (b := b) rfl t' _)⟩

theorem Ev.St.mkSlice {P : Program} {α : Type} {w0 w : World} {S : Nat → Prop} {H : List Ent} (h : St w0 S w H) {t e : TypeId} {sz bytes n : Nat} {z : Value} {enc : α → List Value} {xs : List α} {kl kc : IntKind} {k : Value → World → Prop}
    (hu : P.underlying t = some (.slice e)) (hs : (P.info? e).map (fun i => (i.size, i.bytes)) = some (sz, bytes)) (hz : (P.info? e).bind (·.zero) = some z) (h1 : n * sz ≤ 16777216) (h2 : bytes * n ≤ 281474976710656) (h3 : n ≤ maxLen)
    (hl : xs.length = n) (hcs : (madeCells z.cells (n * sz)).toList = xs.flatMap enc)
    (hk : ∀ b w', w0.heap.size ≤ b → St w0 S w' (H ++ [ownL e sz enc (.slice (some ⟨b, 0, none⟩) n n) xs]) → k (.slice (some ⟨b, 0, none⟩) n n) w') : RunC P (Instr.makeSlice t (.int kl (n : Int)) (.int kc (n : Int))) w k := by
  obtain ⟨ie, e1, e2⟩ := Option.map_eq_some_iff.1 hs
  obtain ⟨ie', e3, e4⟩ := Option.bind_eq_some_iff.1 hz
  obtain rfl := Option.some.inj (e1.symm.trans e3)
  simp only [Prod.mk.injEq] at e2
  obtain ⟨w', hr, ho, hg⟩ := run_makeSlice_full (P := P) w 0 t e ie z sz hu e1 e4 e2.1 kl kc n h1 (by rw [e2.2]; exact h2) h3 (Nat.zero_le _)
  refine ⟨_, _, hr, hk _ _ h.ext.size (h.made (Ext.of_grown hg |>.mono fun _ hb => by cases hb) ownL_local ?_ ?_)⟩
  · unfold ownL own
    rw [hl, ← hcs]
    exact ho
  · intro b hb
    obtain rfl : b = w.heap.size := by simpa [ownL, own, Value.ownBlock] using hb
    refine ⟨Nat.le_refl _, ?_⟩
    obtain ⟨_, ⟨h6, _⟩ | ⟨g, cap, cur, h6, _, h7, _⟩⟩ := ho
    · cases h6
    · cases h6
      exact (Array.getElem?_eq_some_iff.1 h7).1
theorem Ev.St.setL {α : Type} {sz : Nat} {enc : α → List Value} {w0 w : World} {S : Nat → Prop} {H : List Ent} (h : St w0 S w H) (C : Codec sz enc) (i : Nat) {e : TypeId} {b n c o k : Nat} {xs : List α} {d x : α} {vs : List Value} {K : World → Prop} (hi : H[i]? = some (ownL e sz enc (.slice (some ⟨b, 0, none⟩) n c) xs)) (hd : xs[k]? = some d) (ho : o = k * sz) (hv : vs = enc x)
    (hk : ∀ w', Ext (· = b) w w' → St w0 S w' (H.set i (ownL e sz enc (.slice (some ⟨b, 0, none⟩) n c) (xs.set k x))) → K w') : StC w b o vs K := by
  subst ho
  subst hv
  have hlt := (List.getElem?_eq_some_iff.1 hd).1
  have hle : k * sz + sz ≤ xs.length * sz := by rw [← Nat.succ_mul]; exact Nat.mul_le_mul_right _ hlt
  refine h.ownX i hi (by rw [flat_len C, C.len]; exact hle) (C.one x) (fun w' hx hS => hk w' hx ?_)
  have e := flat_over C (k := k) (j := 0) (y := x) (vs := enc x) hd (by rw [C.len]; omega) (over_whole (by rw [C.len, C.len]))
  rw [Nat.add_zero] at e
  rw [e] at hS
  unfold ownL
  rw [List.length_set]
  exact hS
end Go.Proofs.YtoaghhcjlfiflaaGreatDoor

namespace Go.Proofs.YtoaghhcjlfiflaaGreatDoor.Ev
open Go Go.WideShapes

theorem apart_symm' : ∀ a b : Ent, (∀ x ∈ a.foot, x ∉ b.foot) → ∀ x ∈ b.foot, x ∉ a.foot := fun _ _ h x hx hy => h x hy hx

section
variable {w0 w w' w'' : World} {S T : Nat → Prop} {H H' H'' A B : List Ent}

theorem St.sel (h : St w0 S w H) (is : List Nat) (hn : is.Nodup) : St w0 S w (is.filterMap fun i => H[i]?) := by
  have mem : ∀ e ∈ is.filterMap (fun i => H[i]?), e ∈ H := fun e he => by
    obtain ⟨i, _, hi⟩ := List.mem_filterMap.1 he
    exact List.mem_of_getElem? hi
  refine ⟨h.ext, fun e he => h.each e (mem e he), fun e he => h.loc e (mem e he), fun e he => h.may e (mem e he), ?_⟩
  rw [List.pairwise_filterMap]
  refine List.Pairwise.imp ?_ hn
  intro i j hij e he f hf
  exact pairwise_at apart_symm' h.apart he hf hij

theorem St.apartAt (h : St w0 S w H) (i j : Nat) {e f : Ent} (hi : H[i]? = some e) (hj : H[j]? = some f) (hne : i ≠ j) (b : Nat) (hb : b ∈ e.foot) : b ∉ f.foot := pairwise_at apart_symm' h.apart hi hj hne b hb
theorem St.ne (h : St w0 S w H) (i j : Nat) {b c : Nat} {t u : TypeId} {cs ds : List Value} (hi : H[i]? = some (Ev.blk b t cs)) (hj : H[j]? = some (Ev.blk c u ds)) (hne : i ≠ j) : b ≠ c := by
  have := pairwise_at apart_symm' h.apart hi hj hne b (by simp [Ev.blk])
  simpa [Ev.blk] using this

theorem St.laX (h : St w0 S w H) (i : Nat) {b o n : Nat} {t : TypeId} {cs : List Value} {k : Value → Prop} (hi : H[i]? = some (Ev.blk b t cs)) (hn : Nat.ble (o + n) cs.length = true) (hk : k (.agg ((cs.drop o).take n).toArray)) : LdA w b o n k := by
  have hle := Nat.le_of_ble_eq_true hn
  have hl : ((cs.drop o).take n).length = n := by rw [List.length_take, List.length_drop]; omega
  exact h.la i hi hl (by rw [hl]) hk

theorem St.laXF (h : St w0 S w H) (i : Nat) {b o n : Nat} {t : TypeId} {cs : List Value} {k : Value → Prop} (hi : H[i]? = some (Ev.blk b t cs)) (hn : Nat.ble (o + n) cs.length = true) (hT : ¬ T b) (hk : k (.agg ((cs.drop o).take n).toArray)) : LdG (Ext T w) b o n k := by
  have hle := Nat.le_of_ble_eq_true hn
  have hl : ((cs.drop o).take n).length = n := by rw [List.length_take, List.length_drop]; omega
  exact h.laF i hi hl (by rw [hl]) hT hk

structure Has (w : World) (H : List Ent) : Prop where
  each : ∀ e ∈ H, e.holds w
  loc : ∀ e ∈ H, e.Local
  lt : ∀ e ∈ H, ∀ b ∈ e.foot, b < w.heap.size
  apart : H.Pairwise fun e f => ∀ b ∈ e.foot, b ∉ f.foot

abbrev inF (H : List Ent) : Nat → Prop := fun b => ∃ e ∈ H, b ∈ e.foot

structure Turns (w w' : World) (H H' : List Ent) : Prop where
  ext : Ext (inF H) w w'
  has : Has w' H'
  foot : ∀ e ∈ H', ∀ b ∈ e.foot, inF H b ∨ w.heap.size ≤ b

theorem St.has (h : St w0 S w H) : Has w H := ⟨h.each, h.loc, fun e he b hb => (h.may e he b hb).2, h.apart⟩
theorem Has.get (h : Has w H) (i : Nat) {e : Ent} (hi : H[i]? = some e) : e.holds w := h.each e (List.mem_of_getElem? hi)
theorem Has.start (h : Has w H) : St w (inF H) w H := ⟨Ext.refl _ _, h.each, h.loc, fun e he b hb => ⟨.inl ⟨e, he, hb⟩, h.lt e he b hb⟩, h.apart⟩
theorem Has.read (h : Has w H) (hx : Ext No w w') : Has w' H :=
  ⟨fun e he => h.loc e he w w' (fun b hb => hx.block b (h.lt e he b hb) id) (h.each e he), h.loc, fun e he b hb => Nat.lt_of_lt_of_le (h.lt e he b hb) hx.size, h.apart⟩
theorem Has.sub (h : Has w H) (hs : H'.Sublist H) : Has w H' := ⟨fun e he => h.each e (hs.subset he), fun e he => h.loc e (hs.subset he), fun e he => h.lt e (hs.subset he), h.apart.sublist hs⟩
theorem St.turns (h : St w (inF H) w' H') : Turns w w' H H' := ⟨h.ext, h.has, fun e he b hb => (h.may e he b hb).1⟩
theorem Turns.refl (h : Has w H) : Turns w w H H := ⟨Ext.refl _ _, h, fun e he b hb => .inl ⟨e, he, hb⟩⟩
theorem Turns.of_no (h : Has w H) (hx : Ext No w w') : Turns w w' H H := ⟨hx.mono fun _ h => h.elim, h.read hx, fun e he b hb => .inl ⟨e, he, hb⟩⟩
theorem Turns.trans (h : Turns w w' H H') (k : Turns w' w'' H' H'') : Turns w w'' H H'' := by
  refine ⟨h.ext.then k.ext fun b hb => ?_, k.has, fun e he b hb => ?_⟩
  · obtain ⟨e, he, hb⟩ := hb
    exact h.foot e he b hb
  · rcases k.foot e he b hb with ⟨f, hf, hb⟩ | hb
    · exact h.foot f hf b hb
    · exact .inr (Nat.le_trans h.ext.size hb)

theorem inF_app {b : Nat} : inF (A ++ B) b ↔ inF A b ∨ inF B b := by
  constructor
  · rintro ⟨e, he, hb⟩
    rcases List.mem_append.1 he with he | he
    · exact .inl ⟨e, he, hb⟩
    · exact .inr ⟨e, he, hb⟩
  · rintro (⟨e, he, hb⟩ | ⟨e, he, hb⟩)
    · exact ⟨e, List.mem_append_left _ he, hb⟩
    · exact ⟨e, List.mem_append_right _ he, hb⟩

theorem St.call (h : St w0 S w (H ++ B)) (k : Turns w w' H H') : St w0 S w' (H' ++ B) := by
  have hap := List.pairwise_append.1 h.apart
  have hB : ∀ e ∈ B, ∀ b ∈ e.foot, ¬ inF H b := fun e he b hb ⟨f, hf, hb'⟩ => hap.2.2 f hf e he b hb' hb
  have hmB : ∀ e ∈ B, e ∈ H ++ B := fun e he => List.mem_append_right _ he
  refine ⟨h.ext.then k.ext fun b ⟨e, he, hb⟩ => (h.may e (List.mem_append_left _ he) b hb).1, ?_, ?_, ?_, ?_⟩
  · intro e he
    rcases List.mem_append.1 he with he | he
    · exact k.has.each e he
    · exact h.loc e (hmB e he) w w' (fun b hb => k.ext.block b (h.may e (hmB e he) b hb).2 (hB e he b hb)) (h.each e (hmB e he))
  · intro e he
    rcases List.mem_append.1 he with he | he
    · exact k.has.loc e he
    · exact h.loc e (hmB e he)
  · intro e he b hb
    rcases List.mem_append.1 he with he | he
    · refine ⟨?_, k.has.lt e he b hb⟩
      rcases k.foot e he b hb with ⟨f, hf, hb'⟩ | hb'
      · exact (h.may f (List.mem_append_left _ hf) b hb').1
      · exact .inr (Nat.le_trans h.ext.size hb')
    · exact ⟨(h.may e (hmB e he) b hb).1, Nat.lt_of_lt_of_le (h.may e (hmB e he) b hb).2 k.ext.size⟩
  · rw [List.pairwise_append]
    refine ⟨k.has.apart, hap.2.1, fun f hf e he b hb hb' => ?_⟩
    rcases k.foot f hf b hb with hb'' | hb''
    · exact hB e he b hb' hb''
    · have := (h.may e (hmB e he) b hb').2
      omega
theorem St.callAt (h : St w0 S w (A ++ (H ++ B))) (k : Turns w w' H H') : St w0 S w' (A ++ (H' ++ B)) := by
  have p1 : (A ++ (H ++ B)).Perm (H ++ (A ++ B)) := by
    rw [← List.append_assoc, ← List.append_assoc]
    exact List.Perm.append_right _ List.perm_append_comm
  have p2 : (H' ++ (A ++ B)).Perm (A ++ (H' ++ B)) := by
    rw [← List.append_assoc, ← List.append_assoc]
    exact List.Perm.append_right _ List.perm_append_comm
  have perm : ∀ {w : World} {X Y : List Ent}, X.Perm Y → St w0 S w X → St w0 S w Y := fun {w X Y} p h =>
    ⟨h.ext, fun e he => h.each e (p.mem_iff.2 he), fun e he => h.loc e (p.mem_iff.2 he), fun e he => h.may e (p.mem_iff.2 he), (p.pairwise_iff (fun {a b} h => apart_symm' a b h)).1 h.apart⟩
  exact perm p2 ((perm p1 h).call k)
theorem Has.left (h : Has w (A ++ B)) : Has w A := h.sub (List.sublist_append_left _ _)
theorem Has.right (h : Has w (A ++ B)) : Has w B := h.sub (List.sublist_append_right _ _)
def Fresh (w w' : World) (v : Value) : Prop := ∀ g, v.ownBlock = some g → w.heap.size ≤ g ∧ g < w'.heap.size
theorem St.freshAt {w0 w : World} {H : List Ent} (h : St w0 No w H) (i : Nat) {α : Type} {e : TypeId} {sz : Nat} {enc : α → List Value} {v : Value} {xs : List α} (hi : H[i]? = some (ownL e sz enc v xs)) : Fresh w0 w v := fun g hg => by
  rcases h.may _ (List.mem_of_getElem? hi) g (by simpa [ownL, own] using hg) with ⟨h1 | h1, h2⟩
  · exact h1.elim
  · exact ⟨h1, h2⟩
theorem St.madeL {w0 w w' : World} {S : Nat → Prop} {H : List Ent} (h : St w0 S w H) (hx : Ext No w w') {α : Type} {e : TypeId} {sz : Nat} {enc : α → List Value} {v : Value} {xs : List α} (ho : (ownL e sz enc v xs).holds w') (hf : Fresh w w' v) : St w0 S w' (H ++ [ownL e sz enc v xs]) :=
  h.made hx (own_local _ _ _ _ _) ho fun g hg => hf g (by simpa [ownL, own] using hg)
end
end Go.Proofs.YtoaghhcjlfiflaaGreatDoor.Ev

namespace Go.Proofs.YtoaghhcjlfiflaaGreatDoor.Ev
open Go Go.WideShapes

section
variable {P : Program} {α : Type} {sz : Nat} {enc : α → List Value} {w0 w w' : World} {S : Nat → Prop} {H : List Ent} {G : α → Prop} {a : Option Addr} {n c : Nat} {xs : List α}

theorem elem_of {t e : TypeId} (hu : P.underlying t = some (.slice e)) : P.elem t = e := by simp [Program.elem, hu]

end

theorem ownB_lt {α : Type} {w : World} {sz n : Nat} {e : TypeId} {v : Value} {enc : α → List Value} {xs : List α} (h : (ownL e sz enc v xs).holds w) (hg : v.ownBlock = some n) : n < w.heap.size := by
  obtain ⟨_, ⟨h1, _⟩ | ⟨g', cap, cur, h1, _, h2, _⟩⟩ := h
  · rw [h1] at hg; simp [Value.ownBlock] at hg
  · rw [h1] at hg
    simp only [Value.ownBlock, Option.some.injEq] at hg
    subst hg
    exact (Array.getElem?_eq_some_iff.1 h2).1
theorem St.appX {P : Program} {α : Type} {sz : Nat} {enc : α → List Value} {w0 w : World} {S : Nat → Prop} {H : List Ent} (h : St w0 S w H) (C : Codec sz enc) (i : Nat) {t e : TypeId} {bytes : Nat} {z v : Value} {a : Option Addr} {m c : Nat} {G : α → Prop} {xs ys : List α} {k : Value → World → Prop}
    (hu : P.underlying t = some (.slice e)) (hs : (P.info? e).map (fun i => (i.size, i.bytes)) = some (sz, bytes)) (hz : (P.info? e).bind (·.zero) = some z) (hzs : Nat.beq z.cells.size sz = true)
    (hi : H[i]? = some (ownL e sz enc v xs)) (hy : Slc w sz enc G a m ys) (h63 : xs.length + m ≤ maxLen) (hbytes : (xs.length + m) * bytes ≤ 140737488355328)
    (hk : ∀ a' c' w', Ext (fun q => v.ownBlock = some q) w w' → St w0 S w' (H.set i (ownL e sz enc (.slice a' (xs.length + m) c') (xs ++ ys))) → k (.slice a' (xs.length + m) c') w') :
    RunC P (Builtin.append_ #[t, t] 0 #[v, .slice a m c]) w k := by
  have ho := h.get i hi
  have hs1 : St w (fun q => v.ownBlock = some q) w [ownL e sz enc v xs] := (St.start w _).add ownL_local ho (fun q hq => by
    have hq : v.ownBlock = some q := by simpa [ownL, own] using hq
    exact ⟨.inl hq, ownB_lt ho hq⟩) (by simp)
  refine hs1.appS C 0 hu hs hz hzs rfl hy h63 hbytes (fun a' c' w' hS' => ?_)
  refine hk a' c' w' hS'.ext (h.upd i hi hS'.ext (fun q hq => by simp [ownL, own, hq]) ownL_local (hS'.get 0 rfl) fun q hq => ?_)
  have hm := hS'.may _ (List.mem_of_getElem? (i := 0) rfl) q (by simpa using hq)
  rcases hm with ⟨h1 | h1, h2⟩
  · exact .inl (by simp [ownL, own, h1])
  · exact .inr ⟨h1, h2⟩
theorem St.litX {P : Program} {w0 w : World} {S : Nat → Prop} {H : List Ent} (h : St w0 S w H) {t e : TypeId} {len sz : Nat} {z : Value} {parts : Array (Nat × Value)} {cs : List Value} {k : Value → World → Prop}
    (hu : P.underlying t = some (.slice e)) (hs : (P.info? e).map (·.size) = some sz) (hz : (P.info? e).bind (·.zero) = some z) (hsmall : Nat.ble (len * sz) (2 ^ 24) = true) (hpos : Nat.beq (len * sz) 0 = false)
    (hf : fillK sz (zerosL z (len * sz)) parts.toList = some cs)
    (hk : ∀ b w', w.heap.size ≤ b → Ext No w w' → St w0 S w' (H ++ [Ev.blk b e cs]) → k (.slice (some ⟨b, 0, none⟩) len len) w') : RunC P (Instr.buildSlice t len parts) w k := by
  refine (St.start w No).lit hu hs hz hsmall hpos hf (fun b w' hb hS => ?_)
  refine hk b w' hb hS.ext (h.made hS.ext (blk_local _ _ _) (hS.get 0 rfl) fun q hq => ?_)
  obtain rfl : q = b := by simpa [Ev.blk] using hq
  exact ⟨hb, (hS.blk 0 rfl).lt⟩
end Go.Proofs.YtoaghhcjlfiflaaGreatDoor.Ev

namespace Go.Proofs.YtoaghhcjlfiflaaGreatDoor
open Go Ev
def tab : Tab := [
  (1, ⟨1, .other, [.nilFunc]⟩),
  (2, ⟨1, .int, [.int .i64 0]⟩),
  (3, ⟨1, .int, [.int .i64 0]⟩),
  (4, ⟨1, .bool, [.bool false]⟩),
  (5, ⟨1, .other, [.int .u8 0]⟩),
  (9, ⟨1, .str, [.string ByteArray.empty]⟩),
  (12, ⟨1, .other, [.int .u64 0]⟩),
  (13, ⟨2, .struct [(0, 1, false), (1, 1, false)], [.string ByteArray.empty, .int .u64 0]⟩),
  (20, ⟨1, .iface, [.nilIface]⟩),
  (21, ⟨1, .other, [.int .i32 0]⟩),
  (22, ⟨1, .slice 92 5 true, [.slice none 0 0]⟩),
  (23, ⟨1, .slice 38 10 true, [.slice none 0 0]⟩),
  (24, ⟨1, .other, [.nilFunc]⟩),
  (25, ⟨1, .other, [.nilFunc]⟩),
  (26, ⟨1, .ptr, [.pointer none]⟩),
  (27, ⟨1, .iface, [.nilIface]⟩),
  (28, ⟨1, .iface, [.nilIface]⟩),
  (30, ⟨1, .other, [.nilFunc]⟩),
  (31, ⟨1, .other, [.nilFunc]⟩),
  (32, ⟨1, .other, [.nilFunc]⟩),
  (33, ⟨2, .struct [(0, 1, false), (1, 1, false)], [.int .i64 0, .int .i64 0]⟩),
  (34, ⟨2, .struct [(0, 1, false), (1, 1, false)], [.int .i64 0, .int .i64 0]⟩),
  (35, ⟨6, .struct [(0, 1, false), (1, 2, true), (3, 2, true), (5, 1, false)], [.int .i64 0, .int .i64 0, .int .i64 0, .int .i64 0, .int .i64 0, .int .i64 0]⟩),
  (36, ⟨6, .struct [(0, 1, false), (1, 2, true), (3, 2, true), (5, 1, false)], [.int .i64 0, .int .i64 0, .int .i64 0, .int .i64 0, .int .i64 0, .int .i64 0]⟩),
  (37, ⟨10, .struct [(0, 1, false), (1, 1, false), (2, 1, false), (3, 6, true), (9, 1, false)], [.string ByteArray.empty, .int .i64 0, .int .i64 0, .int .i64 0, .int .i64 0, .int .i64 0, .int .i64 0, .int .i64 0, .int .i64 0, .slice none 0 0]⟩),
  (38, ⟨10, .struct [(0, 1, false), (1, 1, false), (2, 1, false), (3, 6, true), (9, 1, false)], [.string ByteArray.empty, .int .i64 0, .int .i64 0, .int .i64 0, .int .i64 0, .int .i64 0, .int .i64 0, .int .i64 0, .int .i64 0, .slice none 0 0]⟩),
  (39, ⟨1, .other, [.nilFunc]⟩),
  (40, ⟨1, .ptr, [.pointer none]⟩),
  (42, ⟨1, .other, [.nilFunc]⟩),
  (43, ⟨1, .ptr, [.pointer none]⟩),
  (44, ⟨1, .ptr, [.pointer none]⟩),
  (45, ⟨1, .ptr, [.pointer none]⟩),
  (46, ⟨1, .ptr, [.pointer none]⟩),
  (47, ⟨1, .ptr, [.pointer none]⟩),
  (48, ⟨8, .struct [(0, 1, false), (1, 1, false), (2, 1, false), (3, 1, false), (4, 1, false), (5, 1, false), (6, 1, false), (7, 1, false)], [.pointer none, .int .i64 0, .int .i64 0, .pointer none, .pointer none, .pointer none, .pointer none, .slice none 0 0]⟩),
  (49, ⟨8, .struct [(0, 1, false), (1, 1, false), (2, 1, false), (3, 1, false), (4, 1, false), (5, 1, false), (6, 1, false), (7, 1, false)], [.pointer none, .int .i64 0, .int .i64 0, .pointer none, .pointer none, .pointer none, .pointer none, .slice none 0 0]⟩),
  (51, ⟨1, .other, [.nilFunc]⟩),
  (52, ⟨1, .other, [.nilFunc]⟩),
  (53, ⟨1, .other, [.nilFunc]⟩),
  (54, ⟨1, .slice 59 10 true, [.slice none 0 0]⟩),
  (55, ⟨1, .other, [.nilFunc]⟩),
  (56, ⟨8, .struct [(0, 1, false), (1, 2, true), (3, 2, true), (5, 1, false), (6, 1, false), (7, 1, false)], [.int .i64 0, .int .i64 0, .int .i64 0, .int .i64 0, .int .i64 0, .int .i64 0, .int .i64 0, .int .i64 0]⟩),
  (57, ⟨8, .struct [(0, 1, false), (1, 2, true), (3, 2, true), (5, 1, false), (6, 1, false), (7, 1, false)], [.int .i64 0, .int .i64 0, .int .i64 0, .int .i64 0, .int .i64 0, .int .i64 0, .int .i64 0, .int .i64 0]⟩),
  (58, ⟨10, .struct [(0, 1, false), (1, 1, false), (2, 8, true)], [.int .i64 0, .int .i64 0, .int .i64 0, .int .i64 0, .int .i64 0, .int .i64 0, .int .i64 0, .int .i64 0, .int .i64 0, .int .i64 0]⟩),
  (59, ⟨10, .struct [(0, 1, false), (1, 1, false), (2, 8, true)], [.int .i64 0, .int .i64 0, .int .i64 0, .int .i64 0, .int .i64 0, .int .i64 0, .int .i64 0, .int .i64 0, .int .i64 0, .int .i64 0]⟩),
  (60, ⟨1, .slice 64 2 true, [.slice none 0 0]⟩),
  (61, ⟨1, .other, [.nilFunc]⟩),
  (62, ⟨1, .slice 3 1 false, [.slice none 0 0]⟩),
  (63, ⟨2, .struct [(0, 1, false), (1, 1, false)], [.int .i64 0, .int .i64 0]⟩),
  (64, ⟨2, .struct [(0, 1, false), (1, 1, false)], [.int .i64 0, .int .i64 0]⟩),
  (65, ⟨1, .other, [.nilFunc]⟩),
  (66, ⟨1, .other, [.nilFunc]⟩),
  (67, ⟨1, .other, [.nilFunc]⟩),
  (68, ⟨2, .struct [(0, 1, false), (1, 1, false)], [.int .i64 0, .int .i64 0]⟩),
  (69, ⟨2, .struct [(0, 1, false), (1, 1, false)], [.int .i64 0, .int .i64 0]⟩),
  (70, ⟨1, .other, [.nilFunc]⟩),
  (71, ⟨1, .other, [.nilFunc]⟩),
  (72, ⟨1, .ptr, [.pointer none]⟩),
  (73, ⟨1, .other, [.nilFunc]⟩),
  (74, ⟨1, .other, [.nilFunc]⟩),
  (75, ⟨1, .other, [.nilFunc]⟩),
  (76, ⟨1, .other, [.nilFunc]⟩),
  (77, ⟨1, .other, [.nilFunc]⟩),
  (78, ⟨1, .other, [.nilFunc]⟩),
  (79, ⟨1, .slice 134 5 true, [.slice none 0 0]⟩),
  (80, ⟨1, .other, [.nilFunc]⟩),
  (81, ⟨1, .slice 107 5 true, [.slice none 0 0]⟩),
  (82, ⟨1, .other, [.nilFunc]⟩),
  (83, ⟨1, .other, [.nilFunc]⟩),
  (84, ⟨1, .slice 135 2 true, [.slice none 0 0]⟩),
  (85, ⟨1, .other, [.nilFunc]⟩),
  (86, ⟨1, .other, [.nilFunc]⟩),
  (87, ⟨1, .other, [.nilFunc]⟩),
  (88, ⟨1, .other, [.nilFunc]⟩),
  (89, ⟨1, .other, [.nilFunc]⟩),
  (90, ⟨1, .other, [.nilFunc]⟩),
  (91, ⟨5, .struct [(0, 1, false), (1, 1, false), (2, 1, false), (3, 1, false), (4, 1, false)], [.bool false, .bool false, .int .i64 0, .int .i64 0, .int .i64 0]⟩),
  (92, ⟨5, .struct [(0, 1, false), (1, 1, false), (2, 1, false), (3, 1, false), (4, 1, false)], [.bool false, .bool false, .int .i64 0, .int .i64 0, .int .i64 0]⟩),
  (93, ⟨1, .ptr, [.pointer none]⟩),
  (94, ⟨2, .arr 2 93 1 false, [.pointer none, .pointer none]⟩),
  (95, ⟨7, .struct [(0, 2, true), (2, 1, false), (3, 1, false), (4, 1, false), (5, 1, false), (6, 1, false)], [.pointer none, .pointer none, .slice none 0 0, .slice none 0 0, .int .i64 0, .int .i64 0, .slice none 0 0]⟩),
  (96, ⟨7, .struct [(0, 2, true), (2, 1, false), (3, 1, false), (4, 1, false), (5, 1, false), (6, 1, false)], [.pointer none, .pointer none, .slice none 0 0, .slice none 0 0, .int .i64 0, .int .i64 0, .slice none 0 0]⟩),
  (97, ⟨1, .ptr, [.pointer none]⟩),
  (98, ⟨1, .other, [.nilFunc]⟩),
  (99, ⟨1, .other, [.nilFunc]⟩),
  (100, ⟨2, .struct [(0, 1, false), (1, 1, false)], [.pointer none, .pointer none]⟩),
  (101, ⟨2, .struct [(0, 1, false), (1, 1, false)], [.pointer none, .pointer none]⟩),
  (102, ⟨1, .other, [.nilFunc]⟩),
  (104, ⟨1, .other, [.nilFunc]⟩),
  (105, ⟨1, .other, [.nilFunc]⟩),
  (106, ⟨5, .struct [(0, 1, false), (1, 1, false), (2, 1, false), (3, 1, false), (4, 1, false)], [.int .i64 0, .int .i64 0, .int .i64 0, .bool false, .slice none 0 0]⟩),
  (107, ⟨5, .struct [(0, 1, false), (1, 1, false), (2, 1, false), (3, 1, false), (4, 1, false)], [.int .i64 0, .int .i64 0, .int .i64 0, .bool false, .slice none 0 0]⟩),
  (109, ⟨1, .other, [.nilFunc]⟩),
  (111, ⟨1, .other, [.nilFunc]⟩),
  (112, ⟨1, .other, [.nilFunc]⟩),
  (113, ⟨1, .other, [.nilFunc]⟩),
  (114, ⟨4, .struct [(0, 1, false), (1, 1, false), (2, 1, false), (3, 1, false)], [.int .i64 0, .int .i64 0, .int .i64 0, .bool false]⟩),
  (115, ⟨4, .struct [(0, 1, false), (1, 1, false), (2, 1, false), (3, 1, false)], [.int .i64 0, .int .i64 0, .int .i64 0, .bool false]⟩),
  (116, ⟨1, .other, [.nilFunc]⟩),
  (117, ⟨1, .other, [.nilFunc]⟩),
  (118, ⟨1, .other, [.nilFunc]⟩),
  (119, ⟨1, .other, [.nilFunc]⟩),
  (120, ⟨1, .slice 126 1 false, [.slice none 0 0]⟩),
  (121, ⟨1, .slice 124 1 false, [.slice none 0 0]⟩),
  (122, ⟨7, .struct [(0, 1, false), (1, 1, false), (2, 1, false), (3, 1, false), (4, 1, false), (5, 1, false), (6, 1, false)], [.slice none 0 0, .slice none 0 0, .slice none 0 0, .slice none 0 0, .int .i64 0, .int .i64 0, .slice none 0 0]⟩),
  (123, ⟨7, .struct [(0, 1, false), (1, 1, false), (2, 1, false), (3, 1, false), (4, 1, false), (5, 1, false), (6, 1, false)], [.slice none 0 0, .slice none 0 0, .slice none 0 0, .slice none 0 0, .int .i64 0, .int .i64 0, .slice none 0 0]⟩),
  (124, ⟨1, .ptr, [.pointer none]⟩),
  (125, ⟨1, .other, [.nilFunc]⟩),
  (126, ⟨1, .ptr, [.pointer none]⟩),
  (128, ⟨1, .other, [.nilFunc]⟩),
  (129, ⟨1, .other, [.nilFunc]⟩),
  (131, ⟨1, .other, [.nilFunc]⟩),
  (132, ⟨1, .other, [.nilFunc]⟩),
  (133, ⟨1, .other, [.nilFunc]⟩),
  (134, ⟨5, .struct [(0, 1, false), (1, 1, false), (2, 1, false), (3, 1, false), (4, 1, false)], [.int .i64 0, .int .i64 0, .int .i64 0, .bool false, .slice none 0 0]⟩),
  (135, ⟨2, .struct [(0, 1, false), (1, 1, false)], [.int .i64 0, .int .i64 0]⟩),
  (136, ⟨1, .other, [.nilFunc]⟩),
  (137, ⟨1, .other, [.nilFunc]⟩),
  (138, ⟨1, .ptr, [.pointer none]⟩),
  (139, ⟨2, .struct [(0, 1, false), (1, 1, false)], [.int .i64 0, .nilIface]⟩),
  (140, ⟨2, .struct [(0, 1, false), (1, 1, false)], [.int .i64 0, .nilIface]⟩),
  (141, ⟨64, .arr 64 5 1 false, []⟩),
  (142, ⟨66, .struct [(0, 64, true), (64, 1, false), (65, 1, false)], []⟩),
  (143, ⟨66, .struct [(0, 64, true), (64, 1, false), (65, 1, false)], []⟩),
  (145, ⟨1, .other, [.nilFunc]⟩),
  (147, ⟨1, .other, [.nilFunc]⟩),
  (149, ⟨1, .other, [.nilFunc]⟩),
  (150, ⟨1, .other, [.nilFunc]⟩),
  (151, ⟨1, .other, [.nilFunc]⟩),
  (152, ⟨1, .other, [.nilFunc]⟩),
  (153, ⟨1, .other, [.nilFunc]⟩),
  (154, ⟨1, .other, [.nilFunc]⟩),
  (156, ⟨1, .other, [.nilFunc]⟩),
  (157, ⟨1, .other, [.nilFunc]⟩),
  (158, ⟨1, .other, [.nilFunc]⟩),
  (159, ⟨1, .other, [.nilFunc]⟩),
  (160, ⟨320, .arr 32 59 10 true, []⟩),
  (161, ⟨321, .struct [(0, 1, false), (1, 320, true)], []⟩),
  (162, ⟨321, .struct [(0, 1, false), (1, 320, true)], []⟩),
  (163, ⟨321, .struct [(0, 1, false), (1, 320, true)], []⟩),
  (164, ⟨321, .struct [(0, 1, false), (1, 320, true)], []⟩),
  (165, ⟨1, .other, [.nilFunc]⟩),
  (166, ⟨1, .ptr, [.pointer none]⟩),
  (167, ⟨1, .slice 28 1 false, [.slice none 0 0]⟩),
  (168, ⟨1, .other, [.nilFunc]⟩),
  (169, ⟨1, .slice 5 1 false, [.slice none 0 0]⟩),
  (170, ⟨4, .struct [(0, 1, false), (1, 1, false), (2, 1, false), (3, 1, false)], [.string ByteArray.empty, .bool false, .int .i64 0, .bool false]⟩),
  (171, ⟨4, .struct [(0, 1, false), (1, 1, false), (2, 1, false), (3, 1, false)], [.string ByteArray.empty, .bool false, .int .i64 0, .bool false]⟩),
  (172, ⟨1, .ptr, [.pointer none]⟩),
  (173, ⟨1, .other, [.nilFunc]⟩),
  (174, ⟨5, .struct [(0, 1, false), (1, 1, false), (2, 1, false), (3, 1, false), (4, 1, false)], [.pointer none, .int .i64 0, .int .i64 0, .int .i64 0, .bool false]⟩),
  (175, ⟨5, .struct [(0, 1, false), (1, 1, false), (2, 1, false), (3, 1, false), (4, 1, false)], [.pointer none, .int .i64 0, .int .i64 0, .int .i64 0, .bool false]⟩),
  (176, ⟨1, .ptr, [.pointer none]⟩),
  (177, ⟨4, .struct [(0, 1, false), (1, 1, false), (2, 1, false), (3, 1, false)], [.int .i64 0, .int .i64 0, .int .i64 0, .bool false]⟩),
  (178, ⟨4, .struct [(0, 1, false), (1, 1, false), (2, 1, false), (3, 1, false)], [.int .i64 0, .int .i64 0, .int .i64 0, .bool false]⟩),
  (179, ⟨1, .ptr, [.pointer none]⟩),
  (180, ⟨1, .other, [.nilFunc]⟩),
  (181, ⟨1, .ptr, [.pointer none]⟩),
  (182, ⟨2, .struct [(0, 1, false), (1, 1, false)], [.int .i64 0, .slice none 0 0]⟩),
  (183, ⟨2, .struct [(0, 1, false), (1, 1, false)], [.int .i64 0, .slice none 0 0]⟩),
  (184, ⟨1, .ptr, [.pointer none]⟩),
  (185, ⟨8, .struct [(0, 1, false), (1, 1, false), (2, 1, false), (3, 1, false), (4, 1, false), (5, 1, false), (6, 1, false), (7, 1, false)], [.int .i64 0, .int .i64 0, .pointer none, .pointer none, .pointer none, .pointer none, .pointer none, .slice none 0 0]⟩),
  (186, ⟨8, .struct [(0, 1, false), (1, 1, false), (2, 1, false), (3, 1, false), (4, 1, false), (5, 1, false), (6, 1, false), (7, 1, false)], [.int .i64 0, .int .i64 0, .pointer none, .pointer none, .pointer none, .pointer none, .pointer none, .slice none 0 0]⟩),
  (187, ⟨1, .other, [.nilFunc]⟩),
  (189, ⟨1, .other, [.nilFunc]⟩),
  (190, ⟨1, .other, [.nilFunc]⟩),
  (192, ⟨1, .other, [.nilFunc]⟩),
  (193, ⟨1, .other, [.nilFunc]⟩),
  (194, ⟨2, .struct [(0, 1, false), (1, 1, false)], [.int .i64 0, .slice none 0 0]⟩),
  (195, ⟨2, .struct [(0, 1, false), (1, 1, false)], [.int .i64 0, .slice none 0 0]⟩),
  (196, ⟨1, .other, [.nilFunc]⟩),
  (197, ⟨1, .other, [.nilFunc]⟩),
  (198, ⟨5, .struct [(0, 1, false), (1, 1, false), (2, 1, false), (3, 1, false), (4, 1, false)], [.pointer none, .int .i64 0, .int .i64 0, .int .i64 0, .bool false]⟩),
  (199, ⟨5, .struct [(0, 1, false), (1, 1, false), (2, 1, false), (3, 1, false), (4, 1, false)], [.pointer none, .int .i64 0, .int .i64 0, .int .i64 0, .bool false]⟩),
  (200, ⟨1, .other, [.nilFunc]⟩),
  (201, ⟨1, .other, [.nilFunc]⟩),
  (202, ⟨1, .other, [.nilFunc]⟩),
  (203, ⟨1, .other, [.nilFunc]⟩),
  (204, ⟨32, .arr 32 3 1 false, []⟩),
  (205, ⟨34, .struct [(0, 1, false), (1, 32, true), (33, 1, false)], []⟩),
  (206, ⟨34, .struct [(0, 1, false), (1, 32, true), (33, 1, false)], []⟩),
  (207, ⟨1, .other, [.nilFunc]⟩),
  (208, ⟨1, .other, [.nilFunc]⟩),
  (210, ⟨1, .other, [.nilFunc]⟩),
  (212, ⟨1, .other, [.nilFunc]⟩),
  (214, ⟨1, .other, [.nilFunc]⟩),
  (216, ⟨1, .other, [.nilFunc]⟩),
  (217, ⟨1, .other, [.nilFunc]⟩),
  (218, ⟨1, .other, [.nilFunc]⟩),
  (219, ⟨1, .other, [.nilFunc]⟩),
  (220, ⟨1, .other, [.nilFunc]⟩),
  (221, ⟨1, .slice 57 8 true, [.slice none 0 0]⟩),
  (222, ⟨1, .other, [.nilFunc]⟩),
  (223, ⟨1, .other, [.nilFunc]⟩),
  (224, ⟨1, .other, [.map none]⟩),
  (225, ⟨1, .other, [.nilFunc]⟩),
  (226, ⟨1, .other, [.nilFunc]⟩),
  (230, ⟨3, .struct [(0, 1, false), (1, 1, false), (2, 1, false)], [.pointer none, .pointer none, .int .u64 0]⟩),
  (233, ⟨1, .iface, [.nilIface]⟩),
  (235, ⟨1, .other, [.int .u8 0]⟩),
  (240, ⟨1, .other, [.nilFunc]⟩),
  (241, ⟨1, .other, [.nilFunc]⟩),
  (242, ⟨1, .other, [.nilFunc]⟩),
  (243, ⟨3, .struct [(0, 1, false), (1, 1, false), (2, 1, false)], [.pointer none, .slice none 0 0, .int .i64 0]⟩),
  (244, ⟨3, .struct [(0, 1, false), (1, 1, false), (2, 1, false)], [.pointer none, .slice none 0 0, .int .i64 0]⟩),
  (245, ⟨1, .other, [.nilFunc]⟩),
  (246, ⟨1, .other, [.nilFunc]⟩),
  (247, ⟨1, .other, [.nilFunc]⟩),
  (248, ⟨1, .other, [.nilFunc]⟩),
  (249, ⟨1, .other, [.nilFunc]⟩),
  (250, ⟨1, .other, [.nilFunc]⟩),
  (251, ⟨1, .other, [.nilFunc]⟩),
  (252, ⟨1, .other, [.nilFunc]⟩),
  (253, ⟨1, .other, [.nilFunc]⟩),
  (254, ⟨1, .other, [.nilFunc]⟩),
  (255, ⟨1, .other, [.nilFunc]⟩),
  (256, ⟨4, .arr 4 3 1 false, [.int .i64 0, .int .i64 0, .int .i64 0, .int .i64 0]⟩),
  (257, ⟨1, .other, [.int .u64 0]⟩),
  (258, ⟨1, .other, [.nilFunc]⟩),
  (259, ⟨1, .other, [.nilFunc]⟩),
  (260, ⟨1, .other, [.nilFunc]⟩),
  (261, ⟨1, .other, [.nilFunc]⟩),
  (262, ⟨1, .other, [.nilFunc]⟩),
  (263, ⟨1, .other, [.nilFunc]⟩),
  (264, ⟨1, .other, [.nilFunc]⟩),
  (265, ⟨1, .other, [.nilFunc]⟩),
  (266, ⟨1, .other, [.nilFunc]⟩),
  (267, ⟨1, .other, [.nilFunc]⟩),
  (268, ⟨1, .ptr, [.pointer none]⟩),
  (270, ⟨1, .other, [.nilFunc]⟩),
  (271, ⟨1, .other, [.map none]⟩),
  (272, ⟨1, .other, [.nilFunc]⟩),
  (273, ⟨2, .struct [(0, 1, false), (1, 1, false)], [.int .i64 0, .int .i64 0]⟩),
  (274, ⟨2, .struct [(0, 1, false), (1, 1, false)], [.int .i64 0, .int .i64 0]⟩),
  (275, ⟨1, .other, [.nilFunc]⟩),
  (281, ⟨1, .iface, [.nilIface]⟩),
  (283, ⟨1, .other, [.nilFunc]⟩),
  (284, ⟨1, .iface, [.nilIface]⟩),
  (285, ⟨1, .other, [.nilFunc]⟩),
  (286, ⟨1, .iface, [.nilIface]⟩),
  (287, ⟨1, .other, [.nilFunc]⟩),
  (288, ⟨1, .iface, [.nilIface]⟩),
  (290, ⟨1, .other, [.nilFunc]⟩),
  (291, ⟨1, .slice 4 1 false, [.slice none 0 0]⟩),
  (292, ⟨1, .other, [.nilFunc]⟩),
  (293, ⟨1, .other, [.int .u32 0]⟩),
  (294, ⟨1, .other, [.nilFunc]⟩),
  (295, ⟨1, .other, [.nilFunc]⟩),
  (296, ⟨1, .other, [.nilFunc]⟩),
  (297, ⟨1, .ptr, [.pointer none]⟩),
  (305, ⟨1, .other, [.nilFunc]⟩),
  (306, ⟨1, .ptr, [.pointer none]⟩),
  (311, ⟨1, .other, [.nilFunc]⟩),
  (315, ⟨1, .struct [(0, 1, false)], [.string ByteArray.empty]⟩),
  (316, ⟨1, .struct [(0, 1, false)], [.string ByteArray.empty]⟩),
  (319, ⟨1, .other, [.int .u16 0]⟩),
  (326, ⟨1, .other, [.nilFunc]⟩),
  (327, ⟨1, .ptr, [.pointer none]⟩)]
theorem tabOk1 : TIok Tryz.prog 1 ⟨1, .other, [.nilFunc]⟩ := ⟨by kernel_rfl, by kernel_rfl, .inr (by kernel_rfl)⟩
theorem tabOk2 : TIok Tryz.prog 2 ⟨1, .int, [.int .i64 0]⟩ := ⟨by kernel_rfl, by kernel_rfl, .inr (by kernel_rfl)⟩
theorem tabOk3 : TIok Tryz.prog 3 ⟨1, .int, [.int .i64 0]⟩ := ⟨by kernel_rfl, by kernel_rfl, .inr (by kernel_rfl)⟩
theorem tabOk4 : TIok Tryz.prog 4 ⟨1, .bool, [.bool false]⟩ := ⟨by kernel_rfl, by kernel_rfl, .inr (by kernel_rfl)⟩
theorem tabOk5 : TIok Tryz.prog 5 ⟨1, .other, [.int .u8 0]⟩ := ⟨by kernel_rfl, by kernel_rfl, .inr (by kernel_rfl)⟩
theorem tabOk9 : TIok Tryz.prog 9 ⟨1, .str, [.string ByteArray.empty]⟩ := ⟨by kernel_rfl, by kernel_rfl, .inr (by kernel_rfl)⟩
theorem tabOk12 : TIok Tryz.prog 12 ⟨1, .other, [.int .u64 0]⟩ := ⟨by kernel_rfl, by kernel_rfl, .inr (by kernel_rfl)⟩
theorem tabOk13 : TIok Tryz.prog 13 ⟨2, .struct [(0, 1, false), (1, 1, false)], [.string ByteArray.empty, .int .u64 0]⟩ := ⟨by kernel_rfl, by kernel_rfl, .inr (by kernel_rfl)⟩
theorem tabOk20 : TIok Tryz.prog 20 ⟨1, .iface, [.nilIface]⟩ := ⟨by kernel_rfl, by kernel_rfl, .inr (by kernel_rfl)⟩
theorem tabOk21 : TIok Tryz.prog 21 ⟨1, .other, [.int .i32 0]⟩ := ⟨by kernel_rfl, by kernel_rfl, .inr (by kernel_rfl)⟩
theorem tabOk22 : TIok Tryz.prog 22 ⟨1, .slice 92 5 true, [.slice none 0 0]⟩ := ⟨by kernel_rfl, by kernel_rfl, .inr (by kernel_rfl)⟩
theorem tabOk23 : TIok Tryz.prog 23 ⟨1, .slice 38 10 true, [.slice none 0 0]⟩ := ⟨by kernel_rfl, by kernel_rfl, .inr (by kernel_rfl)⟩
theorem tabOk24 : TIok Tryz.prog 24 ⟨1, .other, [.nilFunc]⟩ := ⟨by kernel_rfl, by kernel_rfl, .inr (by kernel_rfl)⟩
theorem tabOk25 : TIok Tryz.prog 25 ⟨1, .other, [.nilFunc]⟩ := ⟨by kernel_rfl, by kernel_rfl, .inr (by kernel_rfl)⟩
theorem tabOk26 : TIok Tryz.prog 26 ⟨1, .ptr, [.pointer none]⟩ := ⟨by kernel_rfl, by kernel_rfl, .inr (by kernel_rfl)⟩
theorem tabOk27 : TIok Tryz.prog 27 ⟨1, .iface, [.nilIface]⟩ := ⟨by kernel_rfl, by kernel_rfl, .inr (by kernel_rfl)⟩
theorem tabOk28 : TIok Tryz.prog 28 ⟨1, .iface, [.nilIface]⟩ := ⟨by kernel_rfl, by kernel_rfl, .inr (by kernel_rfl)⟩
theorem tabOk30 : TIok Tryz.prog 30 ⟨1, .other, [.nilFunc]⟩ := ⟨by kernel_rfl, by kernel_rfl, .inr (by kernel_rfl)⟩
theorem tabOk31 : TIok Tryz.prog 31 ⟨1, .other, [.nilFunc]⟩ := ⟨by kernel_rfl, by kernel_rfl, .inr (by kernel_rfl)⟩
theorem tabOk32 : TIok Tryz.prog 32 ⟨1, .other, [.nilFunc]⟩ := ⟨by kernel_rfl, by kernel_rfl, .inr (by kernel_rfl)⟩
theorem tabOk33 : TIok Tryz.prog 33 ⟨2, .struct [(0, 1, false), (1, 1, false)], [.int .i64 0, .int .i64 0]⟩ := ⟨by kernel_rfl, by kernel_rfl, .inr (by kernel_rfl)⟩
theorem tabOk34 : TIok Tryz.prog 34 ⟨2, .struct [(0, 1, false), (1, 1, false)], [.int .i64 0, .int .i64 0]⟩ := ⟨by kernel_rfl, by kernel_rfl, .inr (by kernel_rfl)⟩
theorem tabOk35 : TIok Tryz.prog 35 ⟨6, .struct [(0, 1, false), (1, 2, true), (3, 2, true), (5, 1, false)], [.int .i64 0, .int .i64 0, .int .i64 0, .int .i64 0, .int .i64 0, .int .i64 0]⟩ := ⟨by kernel_rfl, by kernel_rfl, .inr (by kernel_rfl)⟩
theorem tabOk36 : TIok Tryz.prog 36 ⟨6, .struct [(0, 1, false), (1, 2, true), (3, 2, true), (5, 1, false)], [.int .i64 0, .int .i64 0, .int .i64 0, .int .i64 0, .int .i64 0, .int .i64 0]⟩ := ⟨by kernel_rfl, by kernel_rfl, .inr (by kernel_rfl)⟩
theorem tabOk37 : TIok Tryz.prog 37 ⟨10, .struct [(0, 1, false), (1, 1, false), (2, 1, false), (3, 6, true), (9, 1, false)], [.string ByteArray.empty, .int .i64 0, .int .i64 0, .int .i64 0, .int .i64 0, .int .i64 0, .int .i64 0, .int .i64 0, .int .i64 0, .slice none 0 0]⟩ := ⟨by kernel_rfl, by kernel_rfl, .inr (by kernel_rfl)⟩
theorem tabOk38 : TIok Tryz.prog 38 ⟨10, .struct [(0, 1, false), (1, 1, false), (2, 1, false), (3, 6, true), (9, 1, false)], [.string ByteArray.empty, .int .i64 0, .int .i64 0, .int .i64 0, .int .i64 0, .int .i64 0, .int .i64 0, .int .i64 0, .int .i64 0, .slice none 0 0]⟩ := ⟨by kernel_rfl, by kernel_rfl, .inr (by kernel_rfl)⟩
theorem tabOk39 : TIok Tryz.prog 39 ⟨1, .other, [.nilFunc]⟩ := ⟨by kernel_rfl, by kernel_rfl, .inr (by kernel_rfl)⟩
theorem tabOk40 : TIok Tryz.prog 40 ⟨1, .ptr, [.pointer none]⟩ := ⟨by kernel_rfl, by kernel_rfl, .inr (by kernel_rfl)⟩
theorem tabOk42 : TIok Tryz.prog 42 ⟨1, .other, [.nilFunc]⟩ := ⟨by kernel_rfl, by kernel_rfl, .inr (by kernel_rfl)⟩
theorem tabOk43 : TIok Tryz.prog 43 ⟨1, .ptr, [.pointer none]⟩ := ⟨by kernel_rfl, by kernel_rfl, .inr (by kernel_rfl)⟩
theorem tabOk44 : TIok Tryz.prog 44 ⟨1, .ptr, [.pointer none]⟩ := ⟨by kernel_rfl, by kernel_rfl, .inr (by kernel_rfl)⟩
theorem tabOk45 : TIok Tryz.prog 45 ⟨1, .ptr, [.pointer none]⟩ := ⟨by kernel_rfl, by kernel_rfl, .inr (by kernel_rfl)⟩
theorem tabOk46 : TIok Tryz.prog 46 ⟨1, .ptr, [.pointer none]⟩ := ⟨by kernel_rfl, by kernel_rfl, .inr (by kernel_rfl)⟩
theorem tabOk47 : TIok Tryz.prog 47 ⟨1, .ptr, [.pointer none]⟩ := ⟨by kernel_rfl, by kernel_rfl, .inr (by kernel_rfl)⟩
theorem tabOk48 : TIok Tryz.prog 48 ⟨8, .struct [(0, 1, false), (1, 1, false), (2, 1, false), (3, 1, false), (4, 1, false), (5, 1, false), (6, 1, false), (7, 1, false)], [.pointer none, .int .i64 0, .int .i64 0, .pointer none, .pointer none, .pointer none, .pointer none, .slice none 0 0]⟩ := ⟨by kernel_rfl, by kernel_rfl, .inr (by kernel_rfl)⟩
theorem tabOk49 : TIok Tryz.prog 49 ⟨8, .struct [(0, 1, false), (1, 1, false), (2, 1, false), (3, 1, false), (4, 1, false), (5, 1, false), (6, 1, false), (7, 1, false)], [.pointer none, .int .i64 0, .int .i64 0, .pointer none, .pointer none, .pointer none, .pointer none, .slice none 0 0]⟩ := ⟨by kernel_rfl, by kernel_rfl, .inr (by kernel_rfl)⟩
theorem tabOk51 : TIok Tryz.prog 51 ⟨1, .other, [.nilFunc]⟩ := ⟨by kernel_rfl, by kernel_rfl, .inr (by kernel_rfl)⟩
theorem tabOk52 : TIok Tryz.prog 52 ⟨1, .other, [.nilFunc]⟩ := ⟨by kernel_rfl, by kernel_rfl, .inr (by kernel_rfl)⟩
theorem tabOk53 : TIok Tryz.prog 53 ⟨1, .other, [.nilFunc]⟩ := ⟨by kernel_rfl, by kernel_rfl, .inr (by kernel_rfl)⟩
theorem tabOk54 : TIok Tryz.prog 54 ⟨1, .slice 59 10 true, [.slice none 0 0]⟩ := ⟨by kernel_rfl, by kernel_rfl, .inr (by kernel_rfl)⟩
theorem tabOk55 : TIok Tryz.prog 55 ⟨1, .other, [.nilFunc]⟩ := ⟨by kernel_rfl, by kernel_rfl, .inr (by kernel_rfl)⟩
theorem tabOk56 : TIok Tryz.prog 56 ⟨8, .struct [(0, 1, false), (1, 2, true), (3, 2, true), (5, 1, false), (6, 1, false), (7, 1, false)], [.int .i64 0, .int .i64 0, .int .i64 0, .int .i64 0, .int .i64 0, .int .i64 0, .int .i64 0, .int .i64 0]⟩ := ⟨by kernel_rfl, by kernel_rfl, .inr (by kernel_rfl)⟩
theorem tabOk57 : TIok Tryz.prog 57 ⟨8, .struct [(0, 1, false), (1, 2, true), (3, 2, true), (5, 1, false), (6, 1, false), (7, 1, false)], [.int .i64 0, .int .i64 0, .int .i64 0, .int .i64 0, .int .i64 0, .int .i64 0, .int .i64 0, .int .i64 0]⟩ := ⟨by kernel_rfl, by kernel_rfl, .inr (by kernel_rfl)⟩
theorem tabOk58 : TIok Tryz.prog 58 ⟨10, .struct [(0, 1, false), (1, 1, false), (2, 8, true)], [.int .i64 0, .int .i64 0, .int .i64 0, .int .i64 0, .int .i64 0, .int .i64 0, .int .i64 0, .int .i64 0, .int .i64 0, .int .i64 0]⟩ := ⟨by kernel_rfl, by kernel_rfl, .inr (by kernel_rfl)⟩
theorem tabOk59 : TIok Tryz.prog 59 ⟨10, .struct [(0, 1, false), (1, 1, false), (2, 8, true)], [.int .i64 0, .int .i64 0, .int .i64 0, .int .i64 0, .int .i64 0, .int .i64 0, .int .i64 0, .int .i64 0, .int .i64 0, .int .i64 0]⟩ := ⟨by kernel_rfl, by kernel_rfl, .inr (by kernel_rfl)⟩
theorem tabOk60 : TIok Tryz.prog 60 ⟨1, .slice 64 2 true, [.slice none 0 0]⟩ := ⟨by kernel_rfl, by kernel_rfl, .inr (by kernel_rfl)⟩
theorem tabOk61 : TIok Tryz.prog 61 ⟨1, .other, [.nilFunc]⟩ := ⟨by kernel_rfl, by kernel_rfl, .inr (by kernel_rfl)⟩
theorem tabOk62 : TIok Tryz.prog 62 ⟨1, .slice 3 1 false, [.slice none 0 0]⟩ := ⟨by kernel_rfl, by kernel_rfl, .inr (by kernel_rfl)⟩
theorem tabOk63 : TIok Tryz.prog 63 ⟨2, .struct [(0, 1, false), (1, 1, false)], [.int .i64 0, .int .i64 0]⟩ := ⟨by kernel_rfl, by kernel_rfl, .inr (by kernel_rfl)⟩
theorem tabOk64 : TIok Tryz.prog 64 ⟨2, .struct [(0, 1, false), (1, 1, false)], [.int .i64 0, .int .i64 0]⟩ := ⟨by kernel_rfl, by kernel_rfl, .inr (by kernel_rfl)⟩
theorem tabOk65 : TIok Tryz.prog 65 ⟨1, .other, [.nilFunc]⟩ := ⟨by kernel_rfl, by kernel_rfl, .inr (by kernel_rfl)⟩
theorem tabOk66 : TIok Tryz.prog 66 ⟨1, .other, [.nilFunc]⟩ := ⟨by kernel_rfl, by kernel_rfl, .inr (by kernel_rfl)⟩
theorem tabOk67 : TIok Tryz.prog 67 ⟨1, .other, [.nilFunc]⟩ := ⟨by kernel_rfl, by kernel_rfl, .inr (by kernel_rfl)⟩
theorem tabOk68 : TIok Tryz.prog 68 ⟨2, .struct [(0, 1, false), (1, 1, false)], [.int .i64 0, .int .i64 0]⟩ := ⟨by kernel_rfl, by kernel_rfl, .inr (by kernel_rfl)⟩
theorem tabOk69 : TIok Tryz.prog 69 ⟨2, .struct [(0, 1, false), (1, 1, false)], [.int .i64 0, .int .i64 0]⟩ := ⟨by kernel_rfl, by kernel_rfl, .inr (by kernel_rfl)⟩
theorem tabOk70 : TIok Tryz.prog 70 ⟨1, .other, [.nilFunc]⟩ := ⟨by kernel_rfl, by kernel_rfl, .inr (by kernel_rfl)⟩
theorem tabOk71 : TIok Tryz.prog 71 ⟨1, .other, [.nilFunc]⟩ := ⟨by kernel_rfl, by kernel_rfl, .inr (by kernel_rfl)⟩
theorem tabOk72 : TIok Tryz.prog 72 ⟨1, .ptr, [.pointer none]⟩ := ⟨by kernel_rfl, by kernel_rfl, .inr (by kernel_rfl)⟩
theorem tabOk73 : TIok Tryz.prog 73 ⟨1, .other, [.nilFunc]⟩ := ⟨by kernel_rfl, by kernel_rfl, .inr (by kernel_rfl)⟩
theorem tabOk74 : TIok Tryz.prog 74 ⟨1, .other, [.nilFunc]⟩ := ⟨by kernel_rfl, by kernel_rfl, .inr (by kernel_rfl)⟩
theorem tabOk75 : TIok Tryz.prog 75 ⟨1, .other, [.nilFunc]⟩ := ⟨by kernel_rfl, by kernel_rfl, .inr (by kernel_rfl)⟩
theorem tabOk76 : TIok Tryz.prog 76 ⟨1, .other, [.nilFunc]⟩ := ⟨by kernel_rfl, by kernel_rfl, .inr (by kernel_rfl)⟩
theorem tabOk77 : TIok Tryz.prog 77 ⟨1, .other, [.nilFunc]⟩ := ⟨by kernel_rfl, by kernel_rfl, .inr (by kernel_rfl)⟩
theorem tabOk78 : TIok Tryz.prog 78 ⟨1, .other, [.nilFunc]⟩ := ⟨by kernel_rfl, by kernel_rfl, .inr (by kernel_rfl)⟩
theorem tabOk79 : TIok Tryz.prog 79 ⟨1, .slice 134 5 true, [.slice none 0 0]⟩ := ⟨by kernel_rfl, by kernel_rfl, .inr (by kernel_rfl)⟩
theorem tabOk80 : TIok Tryz.prog 80 ⟨1, .other, [.nilFunc]⟩ := ⟨by kernel_rfl, by kernel_rfl, .inr (by kernel_rfl)⟩
theorem tabOk81 : TIok Tryz.prog 81 ⟨1, .slice 107 5 true, [.slice none 0 0]⟩ := ⟨by kernel_rfl, by kernel_rfl, .inr (by kernel_rfl)⟩
theorem tabOk82 : TIok Tryz.prog 82 ⟨1, .other, [.nilFunc]⟩ := ⟨by kernel_rfl, by kernel_rfl, .inr (by kernel_rfl)⟩
theorem tabOk83 : TIok Tryz.prog 83 ⟨1, .other, [.nilFunc]⟩ := ⟨by kernel_rfl, by kernel_rfl, .inr (by kernel_rfl)⟩
theorem tabOk84 : TIok Tryz.prog 84 ⟨1, .slice 135 2 true, [.slice none 0 0]⟩ := ⟨by kernel_rfl, by kernel_rfl, .inr (by kernel_rfl)⟩
theorem tabOk85 : TIok Tryz.prog 85 ⟨1, .other, [.nilFunc]⟩ := ⟨by kernel_rfl, by kernel_rfl, .inr (by kernel_rfl)⟩
theorem tabOk86 : TIok Tryz.prog 86 ⟨1, .other, [.nilFunc]⟩ := ⟨by kernel_rfl, by kernel_rfl, .inr (by kernel_rfl)⟩
theorem tabOk87 : TIok Tryz.prog 87 ⟨1, .other, [.nilFunc]⟩ := ⟨by kernel_rfl, by kernel_rfl, .inr (by kernel_rfl)⟩
theorem tabOk88 : TIok Tryz.prog 88 ⟨1, .other, [.nilFunc]⟩ := ⟨by kernel_rfl, by kernel_rfl, .inr (by kernel_rfl)⟩
theorem tabOk89 : TIok Tryz.prog 89 ⟨1, .other, [.nilFunc]⟩ := ⟨by kernel_rfl, by kernel_rfl, .inr (by kernel_rfl)⟩
theorem tabOk90 : TIok Tryz.prog 90 ⟨1, .other, [.nilFunc]⟩ := ⟨by kernel_rfl, by kernel_rfl, .inr (by kernel_rfl)⟩
theorem tabOk91 : TIok Tryz.prog 91 ⟨5, .struct [(0, 1, false), (1, 1, false), (2, 1, false), (3, 1, false), (4, 1, false)], [.bool false, .bool false, .int .i64 0, .int .i64 0, .int .i64 0]⟩ := ⟨by kernel_rfl, by kernel_rfl, .inr (by kernel_rfl)⟩
theorem tabOk92 : TIok Tryz.prog 92 ⟨5, .struct [(0, 1, false), (1, 1, false), (2, 1, false), (3, 1, false), (4, 1, false)], [.bool false, .bool false, .int .i64 0, .int .i64 0, .int .i64 0]⟩ := ⟨by kernel_rfl, by kernel_rfl, .inr (by kernel_rfl)⟩
theorem tabOk93 : TIok Tryz.prog 93 ⟨1, .ptr, [.pointer none]⟩ := ⟨by kernel_rfl, by kernel_rfl, .inr (by kernel_rfl)⟩
theorem tabOk94 : TIok Tryz.prog 94 ⟨2, .arr 2 93 1 false, [.pointer none, .pointer none]⟩ := ⟨by kernel_rfl, by kernel_rfl, .inr (by kernel_rfl)⟩
theorem tabOk95 : TIok Tryz.prog 95 ⟨7, .struct [(0, 2, true), (2, 1, false), (3, 1, false), (4, 1, false), (5, 1, false), (6, 1, false)], [.pointer none, .pointer none, .slice none 0 0, .slice none 0 0, .int .i64 0, .int .i64 0, .slice none 0 0]⟩ := ⟨by kernel_rfl, by kernel_rfl, .inr (by kernel_rfl)⟩
theorem tabOk96 : TIok Tryz.prog 96 ⟨7, .struct [(0, 2, true), (2, 1, false), (3, 1, false), (4, 1, false), (5, 1, false), (6, 1, false)], [.pointer none, .pointer none, .slice none 0 0, .slice none 0 0, .int .i64 0, .int .i64 0, .slice none 0 0]⟩ := ⟨by kernel_rfl, by kernel_rfl, .inr (by kernel_rfl)⟩
theorem tabOk97 : TIok Tryz.prog 97 ⟨1, .ptr, [.pointer none]⟩ := ⟨by kernel_rfl, by kernel_rfl, .inr (by kernel_rfl)⟩
theorem tabOk98 : TIok Tryz.prog 98 ⟨1, .other, [.nilFunc]⟩ := ⟨by kernel_rfl, by kernel_rfl, .inr (by kernel_rfl)⟩
theorem tabOk99 : TIok Tryz.prog 99 ⟨1, .other, [.nilFunc]⟩ := ⟨by kernel_rfl, by kernel_rfl, .inr (by kernel_rfl)⟩
theorem tabOk100 : TIok Tryz.prog 100 ⟨2, .struct [(0, 1, false), (1, 1, false)], [.pointer none, .pointer none]⟩ := ⟨by kernel_rfl, by kernel_rfl, .inr (by kernel_rfl)⟩
theorem tabOk101 : TIok Tryz.prog 101 ⟨2, .struct [(0, 1, false), (1, 1, false)], [.pointer none, .pointer none]⟩ := ⟨by kernel_rfl, by kernel_rfl, .inr (by kernel_rfl)⟩
theorem tabOk102 : TIok Tryz.prog 102 ⟨1, .other, [.nilFunc]⟩ := ⟨by kernel_rfl, by kernel_rfl, .inr (by kernel_rfl)⟩
theorem tabOk104 : TIok Tryz.prog 104 ⟨1, .other, [.nilFunc]⟩ := ⟨by kernel_rfl, by kernel_rfl, .inr (by kernel_rfl)⟩
theorem tabOk105 : TIok Tryz.prog 105 ⟨1, .other, [.nilFunc]⟩ := ⟨by kernel_rfl, by kernel_rfl, .inr (by kernel_rfl)⟩
theorem tabOk106 : TIok Tryz.prog 106 ⟨5, .struct [(0, 1, false), (1, 1, false), (2, 1, false), (3, 1, false), (4, 1, false)], [.int .i64 0, .int .i64 0, .int .i64 0, .bool false, .slice none 0 0]⟩ := ⟨by kernel_rfl, by kernel_rfl, .inr (by kernel_rfl)⟩
theorem tabOk107 : TIok Tryz.prog 107 ⟨5, .struct [(0, 1, false), (1, 1, false), (2, 1, false), (3, 1, false), (4, 1, false)], [.int .i64 0, .int .i64 0, .int .i64 0, .bool false, .slice none 0 0]⟩ := ⟨by kernel_rfl, by kernel_rfl, .inr (by kernel_rfl)⟩
theorem tabOk109 : TIok Tryz.prog 109 ⟨1, .other, [.nilFunc]⟩ := ⟨by kernel_rfl, by kernel_rfl, .inr (by kernel_rfl)⟩
theorem tabOk111 : TIok Tryz.prog 111 ⟨1, .other, [.nilFunc]⟩ := ⟨by kernel_rfl, by kernel_rfl, .inr (by kernel_rfl)⟩
theorem tabOk112 : TIok Tryz.prog 112 ⟨1, .other, [.nilFunc]⟩ := ⟨by kernel_rfl, by kernel_rfl, .inr (by kernel_rfl)⟩
theorem tabOk113 : TIok Tryz.prog 113 ⟨1, .other, [.nilFunc]⟩ := ⟨by kernel_rfl, by kernel_rfl, .inr (by kernel_rfl)⟩
theorem tabOk114 : TIok Tryz.prog 114 ⟨4, .struct [(0, 1, false), (1, 1, false), (2, 1, false), (3, 1, false)], [.int .i64 0, .int .i64 0, .int .i64 0, .bool false]⟩ := ⟨by kernel_rfl, by kernel_rfl, .inr (by kernel_rfl)⟩
theorem tabOk115 : TIok Tryz.prog 115 ⟨4, .struct [(0, 1, false), (1, 1, false), (2, 1, false), (3, 1, false)], [.int .i64 0, .int .i64 0, .int .i64 0, .bool false]⟩ := ⟨by kernel_rfl, by kernel_rfl, .inr (by kernel_rfl)⟩
theorem tabOk116 : TIok Tryz.prog 116 ⟨1, .other, [.nilFunc]⟩ := ⟨by kernel_rfl, by kernel_rfl, .inr (by kernel_rfl)⟩
theorem tabOk117 : TIok Tryz.prog 117 ⟨1, .other, [.nilFunc]⟩ := ⟨by kernel_rfl, by kernel_rfl, .inr (by kernel_rfl)⟩
theorem tabOk118 : TIok Tryz.prog 118 ⟨1, .other, [.nilFunc]⟩ := ⟨by kernel_rfl, by kernel_rfl, .inr (by kernel_rfl)⟩
theorem tabOk119 : TIok Tryz.prog 119 ⟨1, .other, [.nilFunc]⟩ := ⟨by kernel_rfl, by kernel_rfl, .inr (by kernel_rfl)⟩
theorem tabOk120 : TIok Tryz.prog 120 ⟨1, .slice 126 1 false, [.slice none 0 0]⟩ := ⟨by kernel_rfl, by kernel_rfl, .inr (by kernel_rfl)⟩
theorem tabOk121 : TIok Tryz.prog 121 ⟨1, .slice 124 1 false, [.slice none 0 0]⟩ := ⟨by kernel_rfl, by kernel_rfl, .inr (by kernel_rfl)⟩
theorem tabOk122 : TIok Tryz.prog 122 ⟨7, .struct [(0, 1, false), (1, 1, false), (2, 1, false), (3, 1, false), (4, 1, false), (5, 1, false), (6, 1, false)], [.slice none 0 0, .slice none 0 0, .slice none 0 0, .slice none 0 0, .int .i64 0, .int .i64 0, .slice none 0 0]⟩ := ⟨by kernel_rfl, by kernel_rfl, .inr (by kernel_rfl)⟩
theorem tabOk123 : TIok Tryz.prog 123 ⟨7, .struct [(0, 1, false), (1, 1, false), (2, 1, false), (3, 1, false), (4, 1, false), (5, 1, false), (6, 1, false)], [.slice none 0 0, .slice none 0 0, .slice none 0 0, .slice none 0 0, .int .i64 0, .int .i64 0, .slice none 0 0]⟩ := ⟨by kernel_rfl, by kernel_rfl, .inr (by kernel_rfl)⟩
theorem tabOk124 : TIok Tryz.prog 124 ⟨1, .ptr, [.pointer none]⟩ := ⟨by kernel_rfl, by kernel_rfl, .inr (by kernel_rfl)⟩
theorem tabOk125 : TIok Tryz.prog 125 ⟨1, .other, [.nilFunc]⟩ := ⟨by kernel_rfl, by kernel_rfl, .inr (by kernel_rfl)⟩
theorem tabOk126 : TIok Tryz.prog 126 ⟨1, .ptr, [.pointer none]⟩ := ⟨by kernel_rfl, by kernel_rfl, .inr (by kernel_rfl)⟩
theorem tabOk128 : TIok Tryz.prog 128 ⟨1, .other, [.nilFunc]⟩ := ⟨by kernel_rfl, by kernel_rfl, .inr (by kernel_rfl)⟩
theorem tabOk129 : TIok Tryz.prog 129 ⟨1, .other, [.nilFunc]⟩ := ⟨by kernel_rfl, by kernel_rfl, .inr (by kernel_rfl)⟩
theorem tabOk131 : TIok Tryz.prog 131 ⟨1, .other, [.nilFunc]⟩ := ⟨by kernel_rfl, by kernel_rfl, .inr (by kernel_rfl)⟩
theorem tabOk132 : TIok Tryz.prog 132 ⟨1, .other, [.nilFunc]⟩ := ⟨by kernel_rfl, by kernel_rfl, .inr (by kernel_rfl)⟩
theorem tabOk133 : TIok Tryz.prog 133 ⟨1, .other, [.nilFunc]⟩ := ⟨by kernel_rfl, by kernel_rfl, .inr (by kernel_rfl)⟩
theorem tabOk134 : TIok Tryz.prog 134 ⟨5, .struct [(0, 1, false), (1, 1, false), (2, 1, false), (3, 1, false), (4, 1, false)], [.int .i64 0, .int .i64 0, .int .i64 0, .bool false, .slice none 0 0]⟩ := ⟨by kernel_rfl, by kernel_rfl, .inr (by kernel_rfl)⟩
theorem tabOk135 : TIok Tryz.prog 135 ⟨2, .struct [(0, 1, false), (1, 1, false)], [.int .i64 0, .int .i64 0]⟩ := ⟨by kernel_rfl, by kernel_rfl, .inr (by kernel_rfl)⟩
theorem tabOk136 : TIok Tryz.prog 136 ⟨1, .other, [.nilFunc]⟩ := ⟨by kernel_rfl, by kernel_rfl, .inr (by kernel_rfl)⟩
theorem tabOk137 : TIok Tryz.prog 137 ⟨1, .other, [.nilFunc]⟩ := ⟨by kernel_rfl, by kernel_rfl, .inr (by kernel_rfl)⟩
theorem tabOk138 : TIok Tryz.prog 138 ⟨1, .ptr, [.pointer none]⟩ := ⟨by kernel_rfl, by kernel_rfl, .inr (by kernel_rfl)⟩
theorem tabOk139 : TIok Tryz.prog 139 ⟨2, .struct [(0, 1, false), (1, 1, false)], [.int .i64 0, .nilIface]⟩ := ⟨by kernel_rfl, by kernel_rfl, .inr (by kernel_rfl)⟩
theorem tabOk140 : TIok Tryz.prog 140 ⟨2, .struct [(0, 1, false), (1, 1, false)], [.int .i64 0, .nilIface]⟩ := ⟨by kernel_rfl, by kernel_rfl, .inr (by kernel_rfl)⟩
theorem tabOk141 : TIok Tryz.prog 141 ⟨64, .arr 64 5 1 false, []⟩ := ⟨by kernel_rfl, by kernel_rfl, .inl rfl⟩
theorem tabOk142 : TIok Tryz.prog 142 ⟨66, .struct [(0, 64, true), (64, 1, false), (65, 1, false)], []⟩ := ⟨by kernel_rfl, by kernel_rfl, .inl rfl⟩
theorem tabOk143 : TIok Tryz.prog 143 ⟨66, .struct [(0, 64, true), (64, 1, false), (65, 1, false)], []⟩ := ⟨by kernel_rfl, by kernel_rfl, .inl rfl⟩
theorem tabOk145 : TIok Tryz.prog 145 ⟨1, .other, [.nilFunc]⟩ := ⟨by kernel_rfl, by kernel_rfl, .inr (by kernel_rfl)⟩
theorem tabOk147 : TIok Tryz.prog 147 ⟨1, .other, [.nilFunc]⟩ := ⟨by kernel_rfl, by kernel_rfl, .inr (by kernel_rfl)⟩
theorem tabOk149 : TIok Tryz.prog 149 ⟨1, .other, [.nilFunc]⟩ := ⟨by kernel_rfl, by kernel_rfl, .inr (by kernel_rfl)⟩
theorem tabOk150 : TIok Tryz.prog 150 ⟨1, .other, [.nilFunc]⟩ := ⟨by kernel_rfl, by kernel_rfl, .inr (by kernel_rfl)⟩
theorem tabOk151 : TIok Tryz.prog 151 ⟨1, .other, [.nilFunc]⟩ := ⟨by kernel_rfl, by kernel_rfl, .inr (by kernel_rfl)⟩
theorem tabOk152 : TIok Tryz.prog 152 ⟨1, .other, [.nilFunc]⟩ := ⟨by kernel_rfl, by kernel_rfl, .inr (by kernel_rfl)⟩
theorem tabOk153 : TIok Tryz.prog 153 ⟨1, .other, [.nilFunc]⟩ := ⟨by kernel_rfl, by kernel_rfl, .inr (by kernel_rfl)⟩
theorem tabOk154 : TIok Tryz.prog 154 ⟨1, .other, [.nilFunc]⟩ := ⟨by kernel_rfl, by kernel_rfl, .inr (by kernel_rfl)⟩
theorem tabOk156 : TIok Tryz.prog 156 ⟨1, .other, [.nilFunc]⟩ := ⟨by kernel_rfl, by kernel_rfl, .inr (by kernel_rfl)⟩
theorem tabOk157 : TIok Tryz.prog 157 ⟨1, .other, [.nilFunc]⟩ := ⟨by kernel_rfl, by kernel_rfl, .inr (by kernel_rfl)⟩
theorem tabOk158 : TIok Tryz.prog 158 ⟨1, .other, [.nilFunc]⟩ := ⟨by kernel_rfl, by kernel_rfl, .inr (by kernel_rfl)⟩
theorem tabOk159 : TIok Tryz.prog 159 ⟨1, .other, [.nilFunc]⟩ := ⟨by kernel_rfl, by kernel_rfl, .inr (by kernel_rfl)⟩
theorem tabOk160 : TIok Tryz.prog 160 ⟨320, .arr 32 59 10 true, []⟩ := ⟨by kernel_rfl, by kernel_rfl, .inl rfl⟩
theorem tabOk161 : TIok Tryz.prog 161 ⟨321, .struct [(0, 1, false), (1, 320, true)], []⟩ := ⟨by kernel_rfl, by kernel_rfl, .inl rfl⟩
theorem tabOk162 : TIok Tryz.prog 162 ⟨321, .struct [(0, 1, false), (1, 320, true)], []⟩ := ⟨by kernel_rfl, by kernel_rfl, .inl rfl⟩
theorem tabOk163 : TIok Tryz.prog 163 ⟨321, .struct [(0, 1, false), (1, 320, true)], []⟩ := ⟨by kernel_rfl, by kernel_rfl, .inl rfl⟩
theorem tabOk164 : TIok Tryz.prog 164 ⟨321, .struct [(0, 1, false), (1, 320, true)], []⟩ := ⟨by kernel_rfl, by kernel_rfl, .inl rfl⟩
theorem tabOk165 : TIok Tryz.prog 165 ⟨1, .other, [.nilFunc]⟩ := ⟨by kernel_rfl, by kernel_rfl, .inr (by kernel_rfl)⟩
theorem tabOk166 : TIok Tryz.prog 166 ⟨1, .ptr, [.pointer none]⟩ := ⟨by kernel_rfl, by kernel_rfl, .inr (by kernel_rfl)⟩
theorem tabOk167 : TIok Tryz.prog 167 ⟨1, .slice 28 1 false, [.slice none 0 0]⟩ := ⟨by kernel_rfl, by kernel_rfl, .inr (by kernel_rfl)⟩
theorem tabOk168 : TIok Tryz.prog 168 ⟨1, .other, [.nilFunc]⟩ := ⟨by kernel_rfl, by kernel_rfl, .inr (by kernel_rfl)⟩
theorem tabOk169 : TIok Tryz.prog 169 ⟨1, .slice 5 1 false, [.slice none 0 0]⟩ := ⟨by kernel_rfl, by kernel_rfl, .inr (by kernel_rfl)⟩
theorem tabOk170 : TIok Tryz.prog 170 ⟨4, .struct [(0, 1, false), (1, 1, false), (2, 1, false), (3, 1, false)], [.string ByteArray.empty, .bool false, .int .i64 0, .bool false]⟩ := ⟨by kernel_rfl, by kernel_rfl, .inr (by kernel_rfl)⟩
theorem tabOk171 : TIok Tryz.prog 171 ⟨4, .struct [(0, 1, false), (1, 1, false), (2, 1, false), (3, 1, false)], [.string ByteArray.empty, .bool false, .int .i64 0, .bool false]⟩ := ⟨by kernel_rfl, by kernel_rfl, .inr (by kernel_rfl)⟩
theorem tabOk172 : TIok Tryz.prog 172 ⟨1, .ptr, [.pointer none]⟩ := ⟨by kernel_rfl, by kernel_rfl, .inr (by kernel_rfl)⟩
theorem tabOk173 : TIok Tryz.prog 173 ⟨1, .other, [.nilFunc]⟩ := ⟨by kernel_rfl, by kernel_rfl, .inr (by kernel_rfl)⟩
theorem tabOk174 : TIok Tryz.prog 174 ⟨5, .struct [(0, 1, false), (1, 1, false), (2, 1, false), (3, 1, false), (4, 1, false)], [.pointer none, .int .i64 0, .int .i64 0, .int .i64 0, .bool false]⟩ := ⟨by kernel_rfl, by kernel_rfl, .inr (by kernel_rfl)⟩
theorem tabOk175 : TIok Tryz.prog 175 ⟨5, .struct [(0, 1, false), (1, 1, false), (2, 1, false), (3, 1, false), (4, 1, false)], [.pointer none, .int .i64 0, .int .i64 0, .int .i64 0, .bool false]⟩ := ⟨by kernel_rfl, by kernel_rfl, .inr (by kernel_rfl)⟩
theorem tabOk176 : TIok Tryz.prog 176 ⟨1, .ptr, [.pointer none]⟩ := ⟨by kernel_rfl, by kernel_rfl, .inr (by kernel_rfl)⟩
theorem tabOk177 : TIok Tryz.prog 177 ⟨4, .struct [(0, 1, false), (1, 1, false), (2, 1, false), (3, 1, false)], [.int .i64 0, .int .i64 0, .int .i64 0, .bool false]⟩ := ⟨by kernel_rfl, by kernel_rfl, .inr (by kernel_rfl)⟩
theorem tabOk178 : TIok Tryz.prog 178 ⟨4, .struct [(0, 1, false), (1, 1, false), (2, 1, false), (3, 1, false)], [.int .i64 0, .int .i64 0, .int .i64 0, .bool false]⟩ := ⟨by kernel_rfl, by kernel_rfl, .inr (by kernel_rfl)⟩
theorem tabOk179 : TIok Tryz.prog 179 ⟨1, .ptr, [.pointer none]⟩ := ⟨by kernel_rfl, by kernel_rfl, .inr (by kernel_rfl)⟩
theorem tabOk180 : TIok Tryz.prog 180 ⟨1, .other, [.nilFunc]⟩ := ⟨by kernel_rfl, by kernel_rfl, .inr (by kernel_rfl)⟩
theorem tabOk181 : TIok Tryz.prog 181 ⟨1, .ptr, [.pointer none]⟩ := ⟨by kernel_rfl, by kernel_rfl, .inr (by kernel_rfl)⟩
theorem tabOk182 : TIok Tryz.prog 182 ⟨2, .struct [(0, 1, false), (1, 1, false)], [.int .i64 0, .slice none 0 0]⟩ := ⟨by kernel_rfl, by kernel_rfl, .inr (by kernel_rfl)⟩
theorem tabOk183 : TIok Tryz.prog 183 ⟨2, .struct [(0, 1, false), (1, 1, false)], [.int .i64 0, .slice none 0 0]⟩ := ⟨by kernel_rfl, by kernel_rfl, .inr (by kernel_rfl)⟩
theorem tabOk184 : TIok Tryz.prog 184 ⟨1, .ptr, [.pointer none]⟩ := ⟨by kernel_rfl, by kernel_rfl, .inr (by kernel_rfl)⟩
theorem tabOk185 : TIok Tryz.prog 185 ⟨8, .struct [(0, 1, false), (1, 1, false), (2, 1, false), (3, 1, false), (4, 1, false), (5, 1, false), (6, 1, false), (7, 1, false)], [.int .i64 0, .int .i64 0, .pointer none, .pointer none, .pointer none, .pointer none, .pointer none, .slice none 0 0]⟩ := ⟨by kernel_rfl, by kernel_rfl, .inr (by kernel_rfl)⟩
theorem tabOk186 : TIok Tryz.prog 186 ⟨8, .struct [(0, 1, false), (1, 1, false), (2, 1, false), (3, 1, false), (4, 1, false), (5, 1, false), (6, 1, false), (7, 1, false)], [.int .i64 0, .int .i64 0, .pointer none, .pointer none, .pointer none, .pointer none, .pointer none, .slice none 0 0]⟩ := ⟨by kernel_rfl, by kernel_rfl, .inr (by kernel_rfl)⟩
theorem tabOk187 : TIok Tryz.prog 187 ⟨1, .other, [.nilFunc]⟩ := ⟨by kernel_rfl, by kernel_rfl, .inr (by kernel_rfl)⟩
theorem tabOk189 : TIok Tryz.prog 189 ⟨1, .other, [.nilFunc]⟩ := ⟨by kernel_rfl, by kernel_rfl, .inr (by kernel_rfl)⟩
theorem tabOk190 : TIok Tryz.prog 190 ⟨1, .other, [.nilFunc]⟩ := ⟨by kernel_rfl, by kernel_rfl, .inr (by kernel_rfl)⟩
theorem tabOk192 : TIok Tryz.prog 192 ⟨1, .other, [.nilFunc]⟩ := ⟨by kernel_rfl, by kernel_rfl, .inr (by kernel_rfl)⟩
theorem tabOk193 : TIok Tryz.prog 193 ⟨1, .other, [.nilFunc]⟩ := ⟨by kernel_rfl, by kernel_rfl, .inr (by kernel_rfl)⟩
theorem tabOk194 : TIok Tryz.prog 194 ⟨2, .struct [(0, 1, false), (1, 1, false)], [.int .i64 0, .slice none 0 0]⟩ := ⟨by kernel_rfl, by kernel_rfl, .inr (by kernel_rfl)⟩
theorem tabOk195 : TIok Tryz.prog 195 ⟨2, .struct [(0, 1, false), (1, 1, false)], [.int .i64 0, .slice none 0 0]⟩ := ⟨by kernel_rfl, by kernel_rfl, .inr (by kernel_rfl)⟩
theorem tabOk196 : TIok Tryz.prog 196 ⟨1, .other, [.nilFunc]⟩ := ⟨by kernel_rfl, by kernel_rfl, .inr (by kernel_rfl)⟩
theorem tabOk197 : TIok Tryz.prog 197 ⟨1, .other, [.nilFunc]⟩ := ⟨by kernel_rfl, by kernel_rfl, .inr (by kernel_rfl)⟩
theorem tabOk198 : TIok Tryz.prog 198 ⟨5, .struct [(0, 1, false), (1, 1, false), (2, 1, false), (3, 1, false), (4, 1, false)], [.pointer none, .int .i64 0, .int .i64 0, .int .i64 0, .bool false]⟩ := ⟨by kernel_rfl, by kernel_rfl, .inr (by kernel_rfl)⟩
theorem tabOk199 : TIok Tryz.prog 199 ⟨5, .struct [(0, 1, false), (1, 1, false), (2, 1, false), (3, 1, false), (4, 1, false)], [.pointer none, .int .i64 0, .int .i64 0, .int .i64 0, .bool false]⟩ := ⟨by kernel_rfl, by kernel_rfl, .inr (by kernel_rfl)⟩
theorem tabOk200 : TIok Tryz.prog 200 ⟨1, .other, [.nilFunc]⟩ := ⟨by kernel_rfl, by kernel_rfl, .inr (by kernel_rfl)⟩
theorem tabOk201 : TIok Tryz.prog 201 ⟨1, .other, [.nilFunc]⟩ := ⟨by kernel_rfl, by kernel_rfl, .inr (by kernel_rfl)⟩
theorem tabOk202 : TIok Tryz.prog 202 ⟨1, .other, [.nilFunc]⟩ := ⟨by kernel_rfl, by kernel_rfl, .inr (by kernel_rfl)⟩
theorem tabOk203 : TIok Tryz.prog 203 ⟨1, .other, [.nilFunc]⟩ := ⟨by kernel_rfl, by kernel_rfl, .inr (by kernel_rfl)⟩
theorem tabOk204 : TIok Tryz.prog 204 ⟨32, .arr 32 3 1 false, []⟩ := ⟨by kernel_rfl, by kernel_rfl, .inl rfl⟩
theorem tabOk205 : TIok Tryz.prog 205 ⟨34, .struct [(0, 1, false), (1, 32, true), (33, 1, false)], []⟩ := ⟨by kernel_rfl, by kernel_rfl, .inl rfl⟩
theorem tabOk206 : TIok Tryz.prog 206 ⟨34, .struct [(0, 1, false), (1, 32, true), (33, 1, false)], []⟩ := ⟨by kernel_rfl, by kernel_rfl, .inl rfl⟩
theorem tabOk207 : TIok Tryz.prog 207 ⟨1, .other, [.nilFunc]⟩ := ⟨by kernel_rfl, by kernel_rfl, .inr (by kernel_rfl)⟩
theorem tabOk208 : TIok Tryz.prog 208 ⟨1, .other, [.nilFunc]⟩ := ⟨by kernel_rfl, by kernel_rfl, .inr (by kernel_rfl)⟩
theorem tabOk210 : TIok Tryz.prog 210 ⟨1, .other, [.nilFunc]⟩ := ⟨by kernel_rfl, by kernel_rfl, .inr (by kernel_rfl)⟩
theorem tabOk212 : TIok Tryz.prog 212 ⟨1, .other, [.nilFunc]⟩ := ⟨by kernel_rfl, by kernel_rfl, .inr (by kernel_rfl)⟩
theorem tabOk214 : TIok Tryz.prog 214 ⟨1, .other, [.nilFunc]⟩ := ⟨by kernel_rfl, by kernel_rfl, .inr (by kernel_rfl)⟩
theorem tabOk216 : TIok Tryz.prog 216 ⟨1, .other, [.nilFunc]⟩ := ⟨by kernel_rfl, by kernel_rfl, .inr (by kernel_rfl)⟩
theorem tabOk217 : TIok Tryz.prog 217 ⟨1, .other, [.nilFunc]⟩ := ⟨by kernel_rfl, by kernel_rfl, .inr (by kernel_rfl)⟩
theorem tabOk218 : TIok Tryz.prog 218 ⟨1, .other, [.nilFunc]⟩ := ⟨by kernel_rfl, by kernel_rfl, .inr (by kernel_rfl)⟩
theorem tabOk219 : TIok Tryz.prog 219 ⟨1, .other, [.nilFunc]⟩ := ⟨by kernel_rfl, by kernel_rfl, .inr (by kernel_rfl)⟩
theorem tabOk220 : TIok Tryz.prog 220 ⟨1, .other, [.nilFunc]⟩ := ⟨by kernel_rfl, by kernel_rfl, .inr (by kernel_rfl)⟩
theorem tabOk221 : TIok Tryz.prog 221 ⟨1, .slice 57 8 true, [.slice none 0 0]⟩ := ⟨by kernel_rfl, by kernel_rfl, .inr (by kernel_rfl)⟩
theorem tabOk222 : TIok Tryz.prog 222 ⟨1, .other, [.nilFunc]⟩ := ⟨by kernel_rfl, by kernel_rfl, .inr (by kernel_rfl)⟩
theorem tabOk223 : TIok Tryz.prog 223 ⟨1, .other, [.nilFunc]⟩ := ⟨by kernel_rfl, by kernel_rfl, .inr (by kernel_rfl)⟩
theorem tabOk224 : TIok Tryz.prog 224 ⟨1, .other, [.map none]⟩ := ⟨by kernel_rfl, by kernel_rfl, .inr (by kernel_rfl)⟩
theorem tabOk225 : TIok Tryz.prog 225 ⟨1, .other, [.nilFunc]⟩ := ⟨by kernel_rfl, by kernel_rfl, .inr (by kernel_rfl)⟩
theorem tabOk226 : TIok Tryz.prog 226 ⟨1, .other, [.nilFunc]⟩ := ⟨by kernel_rfl, by kernel_rfl, .inr (by kernel_rfl)⟩
theorem tabOk230 : TIok Tryz.prog 230 ⟨3, .struct [(0, 1, false), (1, 1, false), (2, 1, false)], [.pointer none, .pointer none, .int .u64 0]⟩ := ⟨by kernel_rfl, by kernel_rfl, .inr (by kernel_rfl)⟩
theorem tabOk233 : TIok Tryz.prog 233 ⟨1, .iface, [.nilIface]⟩ := ⟨by kernel_rfl, by kernel_rfl, .inr (by kernel_rfl)⟩
theorem tabOk235 : TIok Tryz.prog 235 ⟨1, .other, [.int .u8 0]⟩ := ⟨by kernel_rfl, by kernel_rfl, .inr (by kernel_rfl)⟩
theorem tabOk240 : TIok Tryz.prog 240 ⟨1, .other, [.nilFunc]⟩ := ⟨by kernel_rfl, by kernel_rfl, .inr (by kernel_rfl)⟩
theorem tabOk241 : TIok Tryz.prog 241 ⟨1, .other, [.nilFunc]⟩ := ⟨by kernel_rfl, by kernel_rfl, .inr (by kernel_rfl)⟩
theorem tabOk242 : TIok Tryz.prog 242 ⟨1, .other, [.nilFunc]⟩ := ⟨by kernel_rfl, by kernel_rfl, .inr (by kernel_rfl)⟩
theorem tabOk243 : TIok Tryz.prog 243 ⟨3, .struct [(0, 1, false), (1, 1, false), (2, 1, false)], [.pointer none, .slice none 0 0, .int .i64 0]⟩ := ⟨by kernel_rfl, by kernel_rfl, .inr (by kernel_rfl)⟩
theorem tabOk244 : TIok Tryz.prog 244 ⟨3, .struct [(0, 1, false), (1, 1, false), (2, 1, false)], [.pointer none, .slice none 0 0, .int .i64 0]⟩ := ⟨by kernel_rfl, by kernel_rfl, .inr (by kernel_rfl)⟩
theorem tabOk245 : TIok Tryz.prog 245 ⟨1, .other, [.nilFunc]⟩ := ⟨by kernel_rfl, by kernel_rfl, .inr (by kernel_rfl)⟩
theorem tabOk246 : TIok Tryz.prog 246 ⟨1, .other, [.nilFunc]⟩ := ⟨by kernel_rfl, by kernel_rfl, .inr (by kernel_rfl)⟩
theorem tabOk247 : TIok Tryz.prog 247 ⟨1, .other, [.nilFunc]⟩ := ⟨by kernel_rfl, by kernel_rfl, .inr (by kernel_rfl)⟩
theorem tabOk248 : TIok Tryz.prog 248 ⟨1, .other, [.nilFunc]⟩ := ⟨by kernel_rfl, by kernel_rfl, .inr (by kernel_rfl)⟩
theorem tabOk249 : TIok Tryz.prog 249 ⟨1, .other, [.nilFunc]⟩ := ⟨by kernel_rfl, by kernel_rfl, .inr (by kernel_rfl)⟩
theorem tabOk250 : TIok Tryz.prog 250 ⟨1, .other, [.nilFunc]⟩ := ⟨by kernel_rfl, by kernel_rfl, .inr (by kernel_rfl)⟩
theorem tabOk251 : TIok Tryz.prog 251 ⟨1, .other, [.nilFunc]⟩ := ⟨by kernel_rfl, by kernel_rfl, .inr (by kernel_rfl)⟩
theorem tabOk252 : TIok Tryz.prog 252 ⟨1, .other, [.nilFunc]⟩ := ⟨by kernel_rfl, by kernel_rfl, .inr (by kernel_rfl)⟩
theorem tabOk253 : TIok Tryz.prog 253 ⟨1, .other, [.nilFunc]⟩ := ⟨by kernel_rfl, by kernel_rfl, .inr (by kernel_rfl)⟩
theorem tabOk254 : TIok Tryz.prog 254 ⟨1, .other, [.nilFunc]⟩ := ⟨by kernel_rfl, by kernel_rfl, .inr (by kernel_rfl)⟩
theorem tabOk255 : TIok Tryz.prog 255 ⟨1, .other, [.nilFunc]⟩ := ⟨by kernel_rfl, by kernel_rfl, .inr (by kernel_rfl)⟩
theorem tabOk256 : TIok Tryz.prog 256 ⟨4, .arr 4 3 1 false, [.int .i64 0, .int .i64 0, .int .i64 0, .int .i64 0]⟩ := ⟨by kernel_rfl, by kernel_rfl, .inr (by kernel_rfl)⟩
theorem tabOk257 : TIok Tryz.prog 257 ⟨1, .other, [.int .u64 0]⟩ := ⟨by kernel_rfl, by kernel_rfl, .inr (by kernel_rfl)⟩
theorem tabOk258 : TIok Tryz.prog 258 ⟨1, .other, [.nilFunc]⟩ := ⟨by kernel_rfl, by kernel_rfl, .inr (by kernel_rfl)⟩
theorem tabOk259 : TIok Tryz.prog 259 ⟨1, .other, [.nilFunc]⟩ := ⟨by kernel_rfl, by kernel_rfl, .inr (by kernel_rfl)⟩
theorem tabOk260 : TIok Tryz.prog 260 ⟨1, .other, [.nilFunc]⟩ := ⟨by kernel_rfl, by kernel_rfl, .inr (by kernel_rfl)⟩
theorem tabOk261 : TIok Tryz.prog 261 ⟨1, .other, [.nilFunc]⟩ := ⟨by kernel_rfl, by kernel_rfl, .inr (by kernel_rfl)⟩
theorem tabOk262 : TIok Tryz.prog 262 ⟨1, .other, [.nilFunc]⟩ := ⟨by kernel_rfl, by kernel_rfl, .inr (by kernel_rfl)⟩
theorem tabOk263 : TIok Tryz.prog 263 ⟨1, .other, [.nilFunc]⟩ := ⟨by kernel_rfl, by kernel_rfl, .inr (by kernel_rfl)⟩
theorem tabOk264 : TIok Tryz.prog 264 ⟨1, .other, [.nilFunc]⟩ := ⟨by kernel_rfl, by kernel_rfl, .inr (by kernel_rfl)⟩
theorem tabOk265 : TIok Tryz.prog 265 ⟨1, .other, [.nilFunc]⟩ := ⟨by kernel_rfl, by kernel_rfl, .inr (by kernel_rfl)⟩
theorem tabOk266 : TIok Tryz.prog 266 ⟨1, .other, [.nilFunc]⟩ := ⟨by kernel_rfl, by kernel_rfl, .inr (by kernel_rfl)⟩
theorem tabOk267 : TIok Tryz.prog 267 ⟨1, .other, [.nilFunc]⟩ := ⟨by kernel_rfl, by kernel_rfl, .inr (by kernel_rfl)⟩
theorem tabOk268 : TIok Tryz.prog 268 ⟨1, .ptr, [.pointer none]⟩ := ⟨by kernel_rfl, by kernel_rfl, .inr (by kernel_rfl)⟩
theorem tabOk270 : TIok Tryz.prog 270 ⟨1, .other, [.nilFunc]⟩ := ⟨by kernel_rfl, by kernel_rfl, .inr (by kernel_rfl)⟩
theorem tabOk271 : TIok Tryz.prog 271 ⟨1, .other, [.map none]⟩ := ⟨by kernel_rfl, by kernel_rfl, .inr (by kernel_rfl)⟩
theorem tabOk272 : TIok Tryz.prog 272 ⟨1, .other, [.nilFunc]⟩ := ⟨by kernel_rfl, by kernel_rfl, .inr (by kernel_rfl)⟩
theorem tabOk273 : TIok Tryz.prog 273 ⟨2, .struct [(0, 1, false), (1, 1, false)], [.int .i64 0, .int .i64 0]⟩ := ⟨by kernel_rfl, by kernel_rfl, .inr (by kernel_rfl)⟩
theorem tabOk274 : TIok Tryz.prog 274 ⟨2, .struct [(0, 1, false), (1, 1, false)], [.int .i64 0, .int .i64 0]⟩ := ⟨by kernel_rfl, by kernel_rfl, .inr (by kernel_rfl)⟩
theorem tabOk275 : TIok Tryz.prog 275 ⟨1, .other, [.nilFunc]⟩ := ⟨by kernel_rfl, by kernel_rfl, .inr (by kernel_rfl)⟩
theorem tabOk281 : TIok Tryz.prog 281 ⟨1, .iface, [.nilIface]⟩ := ⟨by kernel_rfl, by kernel_rfl, .inr (by kernel_rfl)⟩
theorem tabOk283 : TIok Tryz.prog 283 ⟨1, .other, [.nilFunc]⟩ := ⟨by kernel_rfl, by kernel_rfl, .inr (by kernel_rfl)⟩
theorem tabOk284 : TIok Tryz.prog 284 ⟨1, .iface, [.nilIface]⟩ := ⟨by kernel_rfl, by kernel_rfl, .inr (by kernel_rfl)⟩
theorem tabOk285 : TIok Tryz.prog 285 ⟨1, .other, [.nilFunc]⟩ := ⟨by kernel_rfl, by kernel_rfl, .inr (by kernel_rfl)⟩
theorem tabOk286 : TIok Tryz.prog 286 ⟨1, .iface, [.nilIface]⟩ := ⟨by kernel_rfl, by kernel_rfl, .inr (by kernel_rfl)⟩
theorem tabOk287 : TIok Tryz.prog 287 ⟨1, .other, [.nilFunc]⟩ := ⟨by kernel_rfl, by kernel_rfl, .inr (by kernel_rfl)⟩
theorem tabOk288 : TIok Tryz.prog 288 ⟨1, .iface, [.nilIface]⟩ := ⟨by kernel_rfl, by kernel_rfl, .inr (by kernel_rfl)⟩
theorem tabOk290 : TIok Tryz.prog 290 ⟨1, .other, [.nilFunc]⟩ := ⟨by kernel_rfl, by kernel_rfl, .inr (by kernel_rfl)⟩
theorem tabOk291 : TIok Tryz.prog 291 ⟨1, .slice 4 1 false, [.slice none 0 0]⟩ := ⟨by kernel_rfl, by kernel_rfl, .inr (by kernel_rfl)⟩
theorem tabOk292 : TIok Tryz.prog 292 ⟨1, .other, [.nilFunc]⟩ := ⟨by kernel_rfl, by kernel_rfl, .inr (by kernel_rfl)⟩
theorem tabOk293 : TIok Tryz.prog 293 ⟨1, .other, [.int .u32 0]⟩ := ⟨by kernel_rfl, by kernel_rfl, .inr (by kernel_rfl)⟩
theorem tabOk294 : TIok Tryz.prog 294 ⟨1, .other, [.nilFunc]⟩ := ⟨by kernel_rfl, by kernel_rfl, .inr (by kernel_rfl)⟩
theorem tabOk295 : TIok Tryz.prog 295 ⟨1, .other, [.nilFunc]⟩ := ⟨by kernel_rfl, by kernel_rfl, .inr (by kernel_rfl)⟩
theorem tabOk296 : TIok Tryz.prog 296 ⟨1, .other, [.nilFunc]⟩ := ⟨by kernel_rfl, by kernel_rfl, .inr (by kernel_rfl)⟩
theorem tabOk297 : TIok Tryz.prog 297 ⟨1, .ptr, [.pointer none]⟩ := ⟨by kernel_rfl, by kernel_rfl, .inr (by kernel_rfl)⟩
theorem tabOk305 : TIok Tryz.prog 305 ⟨1, .other, [.nilFunc]⟩ := ⟨by kernel_rfl, by kernel_rfl, .inr (by kernel_rfl)⟩
theorem tabOk306 : TIok Tryz.prog 306 ⟨1, .ptr, [.pointer none]⟩ := ⟨by kernel_rfl, by kernel_rfl, .inr (by kernel_rfl)⟩
theorem tabOk311 : TIok Tryz.prog 311 ⟨1, .other, [.nilFunc]⟩ := ⟨by kernel_rfl, by kernel_rfl, .inr (by kernel_rfl)⟩
theorem tabOk315 : TIok Tryz.prog 315 ⟨1, .struct [(0, 1, false)], [.string ByteArray.empty]⟩ := ⟨by kernel_rfl, by kernel_rfl, .inr (by kernel_rfl)⟩
theorem tabOk316 : TIok Tryz.prog 316 ⟨1, .struct [(0, 1, false)], [.string ByteArray.empty]⟩ := ⟨by kernel_rfl, by kernel_rfl, .inr (by kernel_rfl)⟩
theorem tabOk319 : TIok Tryz.prog 319 ⟨1, .other, [.int .u16 0]⟩ := ⟨by kernel_rfl, by kernel_rfl, .inr (by kernel_rfl)⟩
theorem tabOk326 : TIok Tryz.prog 326 ⟨1, .other, [.nilFunc]⟩ := ⟨by kernel_rfl, by kernel_rfl, .inr (by kernel_rfl)⟩
theorem tabOk327 : TIok Tryz.prog 327 ⟨1, .ptr, [.pointer none]⟩ := ⟨by kernel_rfl, by kernel_rfl, .inr (by kernel_rfl)⟩
set_option maxRecDepth 100000 in
theorem tabOk : TabOk Tryz.prog tab :=
  TabOk.of_all (⟨tabOk1, ⟨tabOk2, ⟨tabOk3, ⟨tabOk4, ⟨tabOk5, ⟨tabOk9, ⟨tabOk12, ⟨tabOk13, ⟨tabOk20, ⟨tabOk21, ⟨tabOk22, ⟨tabOk23, ⟨tabOk24, ⟨tabOk25, ⟨tabOk26, ⟨tabOk27, ⟨tabOk28, ⟨tabOk30, ⟨tabOk31, ⟨tabOk32, ⟨tabOk33, ⟨tabOk34, ⟨tabOk35, ⟨tabOk36, ⟨tabOk37, ⟨tabOk38, ⟨tabOk39, ⟨tabOk40, ⟨tabOk42, ⟨tabOk43, ⟨tabOk44, ⟨tabOk45, ⟨tabOk46, ⟨tabOk47, ⟨tabOk48, ⟨tabOk49, ⟨tabOk51, ⟨tabOk52, ⟨tabOk53, ⟨tabOk54, ⟨tabOk55, ⟨tabOk56, ⟨tabOk57, ⟨tabOk58, ⟨tabOk59, ⟨tabOk60, ⟨tabOk61, ⟨tabOk62, ⟨tabOk63, ⟨tabOk64, ⟨tabOk65, ⟨tabOk66, ⟨tabOk67, ⟨tabOk68, ⟨tabOk69, ⟨tabOk70, ⟨tabOk71, ⟨tabOk72, ⟨tabOk73, ⟨tabOk74, ⟨tabOk75, ⟨tabOk76, ⟨tabOk77, ⟨tabOk78, ⟨tabOk79, ⟨tabOk80, ⟨tabOk81, ⟨tabOk82, ⟨tabOk83, ⟨tabOk84, ⟨tabOk85, ⟨tabOk86, ⟨tabOk87, ⟨tabOk88, ⟨tabOk89, ⟨tabOk90, ⟨tabOk91, ⟨tabOk92, ⟨tabOk93, ⟨tabOk94, ⟨tabOk95, ⟨tabOk96, ⟨tabOk97, ⟨tabOk98, ⟨tabOk99, ⟨tabOk100, ⟨tabOk101, ⟨tabOk102, ⟨tabOk104, ⟨tabOk105, ⟨tabOk106, ⟨tabOk107, ⟨tabOk109, ⟨tabOk111, ⟨tabOk112, ⟨tabOk113, ⟨tabOk114, ⟨tabOk115, ⟨tabOk116, ⟨tabOk117, ⟨tabOk118, ⟨tabOk119, ⟨tabOk120, ⟨tabOk121, ⟨tabOk122, ⟨tabOk123, ⟨tabOk124, ⟨tabOk125, ⟨tabOk126, ⟨tabOk128, ⟨tabOk129, ⟨tabOk131, ⟨tabOk132, ⟨tabOk133, ⟨tabOk134, ⟨tabOk135, ⟨tabOk136, ⟨tabOk137, ⟨tabOk138, ⟨tabOk139, ⟨tabOk140, ⟨tabOk141, ⟨tabOk142, ⟨tabOk143, ⟨tabOk145, ⟨tabOk147, ⟨tabOk149, ⟨tabOk150, ⟨tabOk151, ⟨tabOk152, ⟨tabOk153, ⟨tabOk154, ⟨tabOk156, ⟨tabOk157, ⟨tabOk158, ⟨tabOk159, ⟨tabOk160, ⟨tabOk161, ⟨tabOk162, ⟨tabOk163, ⟨tabOk164, ⟨tabOk165, ⟨tabOk166, ⟨tabOk167, ⟨tabOk168, ⟨tabOk169, ⟨tabOk170, ⟨tabOk171, ⟨tabOk172, ⟨tabOk173, ⟨tabOk174, ⟨tabOk175, ⟨tabOk176, ⟨tabOk177, ⟨tabOk178, ⟨tabOk179, ⟨tabOk180, ⟨tabOk181, ⟨tabOk182, ⟨tabOk183, ⟨tabOk184, ⟨tabOk185, ⟨tabOk186, ⟨tabOk187, ⟨tabOk189, ⟨tabOk190, ⟨tabOk192, ⟨tabOk193, ⟨tabOk194, ⟨tabOk195, ⟨tabOk196, ⟨tabOk197, ⟨tabOk198, ⟨tabOk199, ⟨tabOk200, ⟨tabOk201, ⟨tabOk202, ⟨tabOk203, ⟨tabOk204, ⟨tabOk205, ⟨tabOk206, ⟨tabOk207, ⟨tabOk208, ⟨tabOk210, ⟨tabOk212, ⟨tabOk214, ⟨tabOk216, ⟨tabOk217, ⟨tabOk218, ⟨tabOk219, ⟨tabOk220, ⟨tabOk221, ⟨tabOk222, ⟨tabOk223, ⟨tabOk224, ⟨tabOk225, ⟨tabOk226, ⟨tabOk230, ⟨tabOk233, ⟨tabOk235, ⟨tabOk240, ⟨tabOk241, ⟨tabOk242, ⟨tabOk243, ⟨tabOk244, ⟨tabOk245, ⟨tabOk246, ⟨tabOk247, ⟨tabOk248, ⟨tabOk249, ⟨tabOk250, ⟨tabOk251, ⟨tabOk252, ⟨tabOk253, ⟨tabOk254, ⟨tabOk255, ⟨tabOk256, ⟨tabOk257, ⟨tabOk258, ⟨tabOk259, ⟨tabOk260, ⟨tabOk261, ⟨tabOk262, ⟨tabOk263, ⟨tabOk264, ⟨tabOk265, ⟨tabOk266, ⟨tabOk267, ⟨tabOk268, ⟨tabOk270, ⟨tabOk271, ⟨tabOk272, ⟨tabOk273, ⟨tabOk274, ⟨tabOk275, ⟨tabOk281, ⟨tabOk283, ⟨tabOk284, ⟨tabOk285, ⟨tabOk286, ⟨tabOk287, ⟨tabOk288, ⟨tabOk290, ⟨tabOk291, ⟨tabOk292, ⟨tabOk293, ⟨tabOk294, ⟨tabOk295, ⟨tabOk296, ⟨tabOk297, ⟨tabOk305, ⟨tabOk306, ⟨tabOk311, ⟨tabOk315, ⟨tabOk316, ⟨tabOk319, ⟨tabOk326, ⟨tabOk327, trivial⟩⟩⟩⟩⟩⟩⟩⟩⟩⟩⟩⟩⟩⟩⟩⟩⟩⟩⟩⟩⟩⟩⟩⟩⟩⟩⟩⟩⟩⟩⟩⟩⟩⟩⟩⟩⟩⟩⟩⟩⟩⟩⟩⟩⟩⟩⟩⟩⟩⟩⟩⟩⟩⟩⟩⟩⟩⟩⟩⟩⟩⟩⟩⟩⟩⟩⟩⟩⟩⟩⟩⟩⟩⟩⟩⟩⟩⟩⟩⟩⟩⟩⟩⟩⟩⟩⟩⟩⟩⟩⟩⟩⟩⟩⟩⟩⟩⟩⟩⟩⟩⟩⟩⟩⟩⟩⟩⟩⟩⟩⟩⟩⟩⟩⟩⟩⟩⟩⟩⟩⟩⟩⟩⟩⟩⟩⟩⟩⟩⟩⟩⟩⟩⟩⟩⟩⟩⟩⟩⟩⟩⟩⟩⟩⟩⟩⟩⟩⟩⟩⟩⟩⟩⟩⟩⟩⟩⟩⟩⟩⟩⟩⟩⟩⟩⟩⟩⟩⟩⟩⟩⟩⟩⟩⟩⟩⟩⟩⟩⟩⟩⟩⟩⟩⟩⟩⟩⟩⟩⟩⟩⟩⟩⟩⟩⟩⟩⟩⟩⟩⟩⟩⟩⟩⟩⟩⟩⟩⟩⟩⟩⟩⟩⟩⟩⟩⟩⟩⟩⟩⟩⟩⟩⟩⟩⟩⟩⟩⟩⟩⟩⟩⟩⟩⟩⟩⟩⟩⟩⟩⟩⟩⟩⟩⟩⟩⟩⟩⟩⟩⟩⟩⟩⟩⟩⟩⟩⟩)
theorem mixed : Tryz.prog.follows .mixedOrders = true := by kernel_rfl
end Go.Proofs.YtoaghhcjlfiflaaGreatDoor

namespace Go.Proofs.YtoaghhcjlfiflaaGreatDoor
open Go Ev

abbrev encI (x : Int) : List Value := [.int .i64 x]
def errV (E : Nat → Addr) : Nat → Value
  | 0 => .nilIface
  | k + 1 => .iface 297 (.pointer (some (E (k + 1))))

def gErr : Nat → Nat
  | 1 => 6
  | 2 => 0
  | 3 => 5
  | 4 => 3
  | 5 => 7
  | 6 => 2
  | 7 => 4
  | 8 => 8
  | 9 => 9
  | 10 => 10
  | _ => 1

def errRow {H : Type} : Nat → String × DataW H
  | 1 => ("twinrampart/api.ErrText", .iface "*errors.errorString" (.ptr (.agg [.lit (.string [116, 119, 105, 110, 114, 97, 109, 112, 97, 114, 116, 58, 32, 116, 101, 120, 116])])))
  | 2 => ("twinrampart/api.ErrBound", .iface "*errors.errorString" (.ptr (.agg [.lit (.string [116, 119, 105, 110, 114, 97, 109, 112, 97, 114, 116, 58, 32, 98, 111, 117, 110, 100])])))
  | 3 => ("twinrampart/api.ErrShape", .iface "*errors.errorString" (.ptr (.agg [.lit (.string [116, 119, 105, 110, 114, 97, 109, 112, 97, 114, 116, 58, 32, 115, 104, 97, 112, 101])])))
  | 4 => ("twinrampart/api.ErrNone", .iface "*errors.errorString" (.ptr (.agg [.lit (.string [116, 119, 105, 110, 114, 97, 109, 112, 97, 114, 116, 58, 32, 110, 111, 110, 101])])))
  | 5 => ("twinrampart/api.ErrExist", .iface "*errors.errorString" (.ptr (.agg [.lit (.string [116, 119, 105, 110, 114, 97, 109, 112, 97, 114, 116, 58, 32, 101, 120, 105, 115, 116])])))
  | 6 => ("twinrampart/api.ErrFull", .iface "*errors.errorString" (.ptr (.agg [.lit (.string [116, 119, 105, 110, 114, 97, 109, 112, 97, 114, 116, 58, 32, 102, 117, 108, 108])])))
  | 7 => ("twinrampart/api.ErrOff", .iface "*errors.errorString" (.ptr (.agg [.lit (.string [116, 119, 105, 110, 114, 97, 109, 112, 97, 114, 116, 58, 32, 111, 102, 102])])))
  | 8 => ("twinrampart/api.ErrDeny", .iface "*errors.errorString" (.ptr (.agg [.lit (.string [116, 119, 105, 110, 114, 97, 109, 112, 97, 114, 116, 58, 32, 100, 101, 110, 121])])))
  | 9 => ("twinrampart/api.ErrState", .iface "*errors.errorString" (.ptr (.agg [.lit (.string [116, 119, 105, 110, 114, 97, 109, 112, 97, 114, 116, 58, 32, 115, 116, 97, 116, 101])])))
  | 10 => ("twinrampart/api.ErrOld", .iface "*errors.errorString" (.ptr (.agg [.lit (.string [116, 119, 105, 110, 114, 97, 109, 112, 97, 114, 116, 58, 32, 111, 108, 100])])))
  | _ => ("twinrampart/api.ErrHeld", .iface "*errors.errorString" (.ptr (.agg [.lit (.string [116, 119, 105, 110, 114, 97, 109, 112, 97, 114, 116, 58, 32, 104, 101, 108, 100])])))

theorem errRow_named (k : Nat) : Tryz.prog.globalNamed (errRow (H := Unit) k).1 = some (gErr k) ∧ (Tryz.prog.globals[gErr k]?).map (·.type) = some 28 := by
  unfold errRow gErr
  split <;> exact ⟨by kernel_rfl, by kernel_rfl⟩

theorem errRow_form (k : Nat) : ∃ n text, errRow (H := Unit) k = (n, .iface "*errors.errorString" (.ptr (.agg [.lit (.string text)]))) := by
  unfold errRow
  split <;> exact ⟨_, _, rfl⟩

theorem errStar : "*" ++ "errors.errorString" = "*errors.errorString" := by decide
theorem errStr_only (u : TypeId) (h : Tryz.prog.typeName? 3 u = some "*errors.errorString") : u = 297 :=
  typeName_ptr_named (nm := "errors.errorString") (by rw [errStar]; kernel_rfl) (by kernel_rfl) (by decide) u (by rw [errStar]; exact h)

structure Errs (w : World) (E : Nat → Addr) (n : Nat) (ks : List Nat) : Prop where
  at_ : ∀ k, ks.contains k = true → w.cell? ⟨gErr k, 0, none⟩ = some (.iface 297 (.pointer (some (E k))))
  lt : ∀ k, ks.contains k = true → gErr k < n
  row : ∀ k, ks.contains k = true → (∃ c t, w.heap[(E k).block]? = some (.cells c t (0, 0))) ∧ (E k).block < n
  inj : ∀ j k, ks.contains j = true → ks.contains k = true → j ≠ k → E j ≠ E k

theorem Errs.ext {w w' : World} {E : Nat → Addr} {n : Nat} {ks : List Nat} {S : Nat → Prop} (h : Errs w E n ks) (hx : Ext S w w') (hS : ∀ b, S b → n ≤ b) : Errs w' E n ks :=
  ⟨fun k hk => hx.cell (h.at_ k hk) (fun hs => by have := hS _ hs; have := h.lt k hk; omega), h.lt, fun k hk => by
    obtain ⟨⟨c, t, hc⟩, hb⟩ := h.row k hk
    refine ⟨⟨c, t, ?_⟩, hb⟩
    rw [hx.block _ (Array.getElem?_eq_some_iff.1 hc).1 (fun hs => by have := hS _ hs; omega)]
    exact hc, h.inj⟩
theorem Errs.sub {w : World} {E : Nat → Addr} {n : Nat} {ks ks' : List Nat} (h : Errs w E n ks) (hs : ks'.all (fun k => ks.contains k) = true) : Errs w E n ks' := by
  have key : ∀ k, ks'.contains k = true → ks.contains k = true := fun k hk => List.all_eq_true.1 hs k (by simpa using hk)
  exact ⟨fun k hk => h.at_ k (key k hk), fun k hk => h.lt k (key k hk), fun k hk => h.row k (key k hk), fun j k hj hk => h.inj j k (key j hj) (key k hk)⟩
theorem Errs.ne {w : World} {E : Nat → Addr} {n : Nat} {ks : List Nat} (h : Errs w E n ks) (k : Nat) (hk : ks.contains k = true) {b : Nat} (hb : n ≤ b) : gErr k ≠ b := by
  have := h.lt k hk
  omega

theorem laidVars_sub {P : Program} {w : World} {l l' : List (String × DataW Unit)} (hs : l'.Sublist l) : ∀ {ps : List MemPlace}, DataW.LaidVars P w l ps → ∃ ps', DataW.LaidVars P w l' ps' ∧ ps'.Sublist ps := by
  induction hs with
  | slnil => exact fun {ps} h => ⟨ps, h, List.Sublist.refl _⟩
  | cons x hs ih =>
    intro ps h
    obtain ⟨n, d⟩ := x
    obtain ⟨g, t, cs, fuel, p, q, e1, e2, e3, e4, hr, rfl⟩ := h
    obtain ⟨q', hq, hs⟩ := ih hr
    exact ⟨q', hq, hs.trans (List.sublist_append_right _ _)⟩
  | cons_cons x hs ih =>
    intro ps h
    obtain ⟨n, d⟩ := x
    obtain ⟨g, t, cs, fuel, p, q, e1, e2, e3, e4, hr, rfl⟩ := h
    obtain ⟨q', hq, hs⟩ := ih hr
    exact ⟨_, ⟨g, t, cs, fuel, p, q', e1, e2, e3, e4, hq, rfl⟩, List.Sublist.append (List.Sublist.refl _) hs⟩
theorem laidMet_sub {P : Program} {w : World} {l l' : List (String × DataW Unit)} (hs : l'.Sublist l) (h : laidMet P l w) : laidMet P l' w := by
  obtain ⟨ps, hl, hnd, hrows⟩ := h
  obtain ⟨ps', hl', hs⟩ := laidVars_sub hs hl
  exact ⟨ps', hl', hnd.sublist hs, fun b off hp => hrows b off (hs.subset hp)⟩
theorem pair_sub {α : Type} {x y : α} (hne : x ≠ y) {l : List α} (hx : x ∈ l) (hy : y ∈ l) : [x, y].Sublist l ∨ [y, x].Sublist l := by
  induction l with
  | nil => cases hx
  | cons z l ih =>
    rcases List.mem_cons.1 hx with h1 | h1
    · rcases List.mem_cons.1 hy with h2 | h2
      · exact absurd (h1.trans h2.symm) hne
      · subst h1
        exact .inl (.cons_cons _ (List.singleton_sublist.2 h2))
    · rcases List.mem_cons.1 hy with h2 | h2
      · subst h2
        exact .inr (.cons_cons _ (List.singleton_sublist.2 h1))
      · rcases ih h1 h2 with h | h
        · exact .inl (.cons _ h)
        · exact .inr (.cons _ h)

theorem gErr_inj (j : Nat) (hj : j < 12) (k : Nat) (hk : k < 12) (j0 : 0 < j) (k0 : 0 < k) (hne : j ≠ k) : gErr j ≠ gErr k := by
  have h : ((List.range 12).all fun j => (List.range 12).all fun k => Nat.beq j 0 || Nat.beq k 0 || Nat.beq j k || !Nat.beq (gErr j) (gErr k)) = true := by rfl
  have h1 := List.all_eq_true.1 (List.all_eq_true.1 h j (List.mem_range.2 hj)) k (List.mem_range.2 hk)
  intro he
  rw [he] at h1
  simp at h1
  omega

theorem sentinel1 {P : Program} {n nm : String} {text : List UInt8} {W : World} {g : Nat} {ti tp te ts : TypeId} {ms : Array (String × TypeId)} {f : Field}
    (h : laidMet P [(n, .iface nm (.ptr (.agg [.lit (.string text)])))] W)
    (hg : P.globalNamed n = some g) (ht : (P.globals[g]?).map (·.type) = some ti) (hi : P.underlying ti = some (.interface ms)) (hrow : ∀ u, P.typeName? 3 u = some nm → u = tp)
    (hp : P.underlying tp = some (.pointer te)) (he : P.underlying te = some (.struct #[f])) (hft : f.type = ts) (hfo : f.offset = 0) (hs : P.underlying ts = some .string) (hc : P.cellsOf te = 1) (hcs : P.cellsOf ts = 1) :
    ∃ (a : Addr), W.cell? ⟨g, 0, none⟩ = some (.iface tp (.pointer (some a))) ∧ (∃ c t, W.heap[a.block]? = some (.cells c t (0, 0))) := by
  obtain ⟨ps, ⟨g0, t0, cs0, f0, p0, q0, hg0, ht0, hv0, hd0, _, e0⟩, _, hrows⟩ := h
  obtain rfl := Option.some.inj (hg.symm.trans hg0)
  obtain rfl := Option.some.inj (ht.symm.trans ht0)
  subst e0
  obtain ⟨l0⟩ := cs0
  have ok0 : ∀ u v, l0 = [.iface u v] → Value.okWide P W .any 0 u v := fun u v e => by
    subst e
    exact (hrows g 0 (by simp [MemPlace.row])).2 u v (by simpa using World.var?_cell hg0 hv0 0)
  obtain ⟨a0, s0, rfl, hc0, hs0, hz0, rfl⟩ := errorString_of_trod hi hrow hp he hft hfo hs hc hcs hd0 ok0
  refine ⟨a0, by simpa using World.var?_cell hg0 hv0 0, ?_⟩
  obtain ⟨c, t, hb⟩ := (hrows a0.block a0.off (by simp [MemPlace.row])).1
  exact ⟨c, t, hb⟩

theorem errs_of {L : List (String × DataW Unit)} {W : World} (ks : List Nat) (hks : ks.all (fun k => decide (0 < k ∧ k < 12)) = true) (hl : laidMetH Tryz.prog L W) (hm : ∀ k ∈ ks, errRow k ∈ L) : ∃ E, Errs W E W.heap.size ks := by
  have h1 := (laidMetH_iff.1 hl).1
  have hin : ∀ k, k ∈ ks → errRow (H := Unit) k ∈ L.filter fun x => x.2.handleName?.isNone := fun k hk => by
    obtain ⟨n, text, hf⟩ := errRow_form k
    refine List.mem_filter.2 ⟨hm k hk, ?_⟩
    rw [hf]
    rfl
  have key : ∀ k, ∃ a : Addr, k ∈ ks → W.cell? ⟨gErr k, 0, none⟩ = some (.iface 297 (.pointer (some a))) ∧ (∃ c t, W.heap[a.block]? = some (.cells c t (0, 0))) := by
    intro k
    by_cases hk : k ∈ ks
    · have hk2 := hin k hk
      obtain ⟨hg, ht⟩ := errRow_named k
      obtain ⟨n, text, hf⟩ := errRow_form k
      rw [hf] at hk2 hg
      have h2 := laidMet_sub (List.singleton_sublist.2 hk2) h1
      obtain ⟨a, h3, h4⟩ := sentinel1 (P := Tryz.prog) h2 hg ht Tryz.underlying28 errStr_only Tryz.underlying297 Tryz.underlying316 rfl rfl Tryz.underlying9 (by kernel_rfl) (by kernel_rfl)
      exact ⟨a, fun _ => ⟨h3, h4⟩⟩
    · exact ⟨⟨0, 0, none⟩, fun h => absurd h hk⟩
  have spec : ∀ k, ks.contains k = true → _ := fun k hk => (key k).choose_spec (by simpa using hk)
  refine ⟨fun k => (key k).choose, fun k hk => (spec k hk).1, fun k hk => ?_, fun k hk => ?_, fun j k hj hk hne => ?_⟩
  · exact cell_lt (spec k hk).1
  · obtain ⟨_, c, t, hc⟩ := spec k hk
    exact ⟨⟨c, t, hc⟩, (Array.getElem?_eq_some_iff.1 hc).1⟩
  · have bj := of_decide_eq_true (List.all_eq_true.1 hks j (by simpa using hj))
    have bk := of_decide_eq_true (List.all_eq_true.1 hks k (by simpa using hk))
    have gne := gErr_inj j bj.2 k bk.2 bj.1 bk.1 hne
    have two : ∀ j k, ks.contains j = true → ks.contains k = true → [errRow (H := Unit) j, errRow k].Sublist (L.filter fun x => x.2.handleName?.isNone) → (key j).choose ≠ (key k).choose := by
      intro j k hj hk hsub
      have h2 := laidMet_sub hsub h1
      obtain ⟨hgj, htj⟩ := errRow_named j
      obtain ⟨hgk, htk⟩ := errRow_named k
      obtain ⟨nj, textj, hfj⟩ := errRow_form j
      obtain ⟨nk, textk, hfk⟩ := errRow_form k
      rw [hfj] at hgj
      rw [hfk] at hgk
      rw [hfj, hfk] at h2
      obtain ⟨a0, a1, _, _, _, _, _, _, v0, v1, _, _, _, _, _, _, hne2, _⟩ := laid_sentinels2 (P := Tryz.prog) h2 hgj htj hgk htk Tryz.underlying28 errStr_only Tryz.underlying297 Tryz.underlying316 rfl rfl Tryz.underlying9 (by kernel_rfl) (by kernel_rfl)
      have c0 : W.cell? ⟨gErr j, 0, none⟩ = some (.iface 297 (.pointer (some a0))) := by simpa using World.var?_cell hgj v0 0
      have c1 : W.cell? ⟨gErr k, 0, none⟩ = some (.iface 297 (.pointer (some a1))) := by simpa using World.var?_cell hgk v1 0
      have d0 := (spec j hj).1
      have d1 := (spec k hk).1
      have d0 := c0.symm.trans d0
      have d1 := c1.symm.trans d1
      simp only [Option.some.injEq, Value.iface.injEq, Value.pointer.injEq, true_and] at d0 d1
      intro he
      exact hne2 (d0.trans (he.trans d1.symm))
    have hrne : errRow (H := Unit) j ≠ errRow k := by
      intro he
      have a := (errRow_named j).1
      rw [he, (errRow_named k).1] at a
      exact gne (Option.some.inj a).symm
    rcases pair_sub hrne (hin j (by simpa using hj)) (hin k (by simpa using hk)) with h | h
    · exact two j k hj hk h
    · exact (two k j hk hj h).symm
end Go.Proofs.YtoaghhcjlfiflaaGreatDoor

namespace Go.Proofs.YtoaghhcjlfiflaaGreatDoor
open Go Ev

structure FlowS where
  proto : Int
  ia : Int
  ip : Int
  fa : Int
  fp : Int
  port : Int
  state : Int
  til : Int
  deriving DecidableEq
structure CellS where
  slot : Int
  ver : Int
  f : FlowS
  deriving DecidableEq

def encFlow (f : FlowS) : List Value := [.int .i64 f.proto, .int .i64 f.ia, .int .i64 f.ip, .int .i64 f.fa, .int .i64 f.fp, .int .i64 f.port, .int .i64 f.state, .int .i64 f.til]
def encCell (c : CellS) : List Value := [.int .i64 c.slot, .int .i64 c.ver, .int .i64 c.f.proto, .int .i64 c.f.ia, .int .i64 c.f.ip, .int .i64 c.f.fa, .int .i64 c.f.fp, .int .i64 c.f.port, .int .i64 c.f.state, .int .i64 c.f.til]
def FlowS.pr (f : FlowS) : List Pr := [.int f.proto, .int f.ia, .int f.ip, .int f.fa, .int f.fp, .int f.port, .int f.state, .int f.til]
def CellS.pr (c : CellS) : List Pr := [.int c.slot, .int c.ver, .int c.f.proto, .int c.f.ia, .int c.f.ip, .int c.f.fa, .int c.f.fp, .int c.f.port, .int c.f.state, .int c.f.til]
def endPr (a p : Int) : List Pr := [.int a, .int p]
def noFlow : FlowS := ⟨0, 0, 0, 0, 0, 0, 0, 0⟩

theorem codCell : Codec 10 encCell := ⟨fun _ => rfl, fun _ => rfl, by decide⟩
theorem codFlow : Codec 8 encFlow := ⟨fun _ => rfl, fun _ => rfl, by decide⟩
theorem pr_cell (f g : CellS) : (f.pr = g.pr) = (f = g) := by
  obtain ⟨x, y, a, b, c, d, e, p, s, u⟩ := f
  obtain ⟨x', y', a', b', c', d', e', p', s', u'⟩ := g
  simp [CellS.pr]

theorem neCell {c d : CellS} {k : Value → Prop} (hk : k (.bool (!decide (c = d)))) :
    PureC Tryz.prog (do eqGuard .neq 59 (.tmp 0) (.tmp 0) (.agg (encCell c).toArray) (.agg (encCell d).toArray); Go.binOp .neq 59 (.agg (encCell c).toArray) (.agg (encCell d).toArray)) k :=
  neS (a := c.pr) (b := d.pr) (ks := [.int, .int, .int, .int, .int, .int, .int, .int, .int, .int]) (by kernel_rfl) (by kernel_rfl) (by kernel_rfl) rfl rfl (by simpa only [pr_cell] using hk)
def idxI {α : Type} (p : α → Bool) : List α → Nat → Int
  | [], _ => -1
  | x :: xs, k => match p x with | true => (k : Int) | false => idxI p xs (k + 1)
theorem idxI_step {α : Type} (p : α → Bool) {xs : List α} {k : Nat} {x : α} (hx : xs[k]? = some x) : idxI p (xs.drop k) k = match p x with | true => (k : Int) | false => idxI p (xs.drop (k + 1)) (k + 1) := by
  obtain ⟨hlt, rfl⟩ := List.getElem?_eq_some_iff.1 hx
  rw [List.drop_eq_getElem_cons hlt]
  rfl
theorem idxI_nonneg {α : Type} (p : α → Bool) : ∀ (xs : List α) (k : Nat), (0 ≤ idxI p xs k) = (xs.any p = true)
  | [], k => by simp [idxI]
  | x :: xs, k => by
    unfold idxI
    cases h : p x
    · simp [h, idxI_nonneg p xs (k + 1)]
    · simp [h]

section
variable {w : World} {G : CellS → Prop} {a b : Option Addr} {n m c d : Nat} {xs ys : List CellS}

theorem indexFunc_ok (p : CellS → Bool) (g : FuncId) (caps : List Value) (hx : Slc w 10 encCell G a n xs)
    (hg : ∀ x ∈ xs, G x → ∀ w', Ext No w w' → CallC Tryz.prog g ([Value.agg (encCell x).toArray] ++ caps).toArray w' fun v w'' => v = .bool (p x) ∧ Ext No w' w'') :
    CallC Tryz.prog 200 #[.slice a n c, .func (.func g) #[] caps.toArray] w fun v w' => v = .int .i64 (idxI p xs 0) ∧ Ext No w w' := by
  have hm := hx.max
  have hl := hx.len
  refine fn_intro tabOk Tryz.func200 (by kernel_rfl) rfl Tryz.ntmps200 (Nat.le_of_ble_eq_true rfl) ?_
  have hS := St.start w No
  (conv => whnf)
  refine loopR tabOk (fun σ w' q => ∃ k : Nat, σ = [(8, .int .i64 k), (7, .int .i64 n), (1, .func (.func g) #[] caps.toArray), (0, .slice a n c)] ∧ q = n - k ∧ k ≤ n ∧ St w No w' [] ∧ idxI p xs 0 = idxI p (xs.drop k) k)
    (σ' := [(8, .int .i64 ((0 : Nat) : Int)), (7, .int .i64 n), (1, .func (.func g) #[] caps.toArray), (0, .slice a n c)]) (n := n) ⟨rfl, rfl, rfl, rfl, trivial⟩ ⟨0, rfl, rfl, Nat.zero_le _, hS, by simp⟩ ?_
  clear hS
  rintro _ w1 q ⟨k, rfl, rfl, hk, hS, hi⟩
  (conv => whnf)
  refine brD (fun h3 => ?_) (fun h3 => ?_)
  · obtain ⟨b0, o0, x, hxk, hgx, rfl, _, hc⟩ := hx.at (k := k) (by omega)
    have hst := idxI_step p hxk
    (conv => whnf)
    refine IdxC.mk (by omega) (by omega) ?_
    (conv => whnf)
    refine hS.lar (l := encCell x) rfl hc id ?_
    have key := hg x (List.mem_of_getElem? hxk) hgx w1 hS.ext
    have fin : ∀ (K : Value → World → Prop), (∀ w', Ext No w1 w' → K (.bool (p x)) w') → CallC Tryz.prog g ([Value.agg (encCell x).toArray] ++ caps).toArray w1 K := by
      intro K hK
      refine key.mono ?_
      rintro v w' ⟨rfl, hx'⟩
      exact hK w' hx'
    clear key
    cases caps
    all_goals
      (conv => whnf)
      refine fin _ ?_
      intro w' hx'
      replace hS := hS.no hx'
      (conv => whnf)
      refine brI (fun h4 => ?_) (fun h4 => ?_)
      · repeat' ((conv => whnf); first | refine RetC.mk ?_ | refine NzC.mk (by decide) ?_ | refine RngC.mk (by omega) (by omega) ?_ | refine IdxC.mk (by omega) (by omega) ?_ | refine brD (fun _ => ?_) (fun _ => ?_) | refine brND (fun _ => ?_) (fun _ => ?_) | refine brN (fun _ => ?_) (fun _ => ?_) | refine brI (fun _ => ?_) (fun _ => ?_))
        rw [hi, hst, h4]
        exact ⟨rfl, hS.ext⟩
      · (conv => whnf)
        refine RngC.mk (by omega) (by omega) ?_
        (conv => whnf)
        refine LoopE.mk ⟨_, [(8, .int .i64 ((k + 1 : Nat) : Int)), (7, _), (1, _), (0, _)], ?_, ⟨rfl, rfl, rfl, rfl, trivial⟩, ⟨k + 1, rfl, rfl, by omega, hS, ?_⟩⟩
        · omega
        · rw [hi, hst, h4]
  · repeat' ((conv => whnf); first | refine RetC.mk ?_ | refine NzC.mk (by decide) ?_ | refine RngC.mk (by omega) (by omega) ?_ | refine IdxC.mk (by omega) (by omega) ?_ | refine brD (fun _ => ?_) (fun _ => ?_) | refine brND (fun _ => ?_) (fun _ => ?_) | refine brN (fun _ => ?_) (fun _ => ?_) | refine brI (fun _ => ?_) (fun _ => ?_))
    have : k = n := by omega
    subst this
    rw [hi, List.drop_of_length_le (by omega)]
    exact ⟨rfl, hS.ext⟩

theorem containsFunc_ok (p : CellS → Bool) (g : FuncId) (caps : List Value) (hx : Slc w 10 encCell G a n xs)
    (hg : ∀ x ∈ xs, G x → ∀ w', Ext No w w' → CallC Tryz.prog g ([Value.agg (encCell x).toArray] ++ caps).toArray w' fun v w'' => v = .bool (p x) ∧ Ext No w' w'') :
    CallC Tryz.prog 151 #[.slice a n c, .func (.func g) #[] caps.toArray] w fun v w' => v = .bool (xs.any p) ∧ Ext No w w' := by
  refine fn_intro tabOk Tryz.func151 (by kernel_rfl) rfl Tryz.ntmps151 (Nat.le_of_ble_eq_true rfl) ?_
  (conv => whnf)
  refine (indexFunc_ok p g caps hx hg).mono ?_
  rintro v w' ⟨rfl, hx'⟩
  repeat' ((conv => whnf); first | refine RetC.mk ?_ | refine NzC.mk (by decide) ?_ | refine RngC.mk (by omega) (by omega) ?_ | refine IdxC.mk (by omega) (by omega) ?_ | refine brD (fun _ => ?_) (fun _ => ?_) | refine brND (fun _ => ?_) (fun _ => ?_) | refine brN (fun _ => ?_) (fun _ => ?_) | refine brI (fun _ => ?_) (fun _ => ?_))
  have e : decide (idxI p xs 0 ≥ 0) = xs.any p := by
    show decide (0 ≤ _) = _
    simp only [idxI_nonneg]
    cases xs.any p <;> rfl
  rw [e]
  exact ⟨rfl, hx'⟩

theorem take_succ_eq {α : Type} {xs ys : List α} {k : Nat} {x y : α} (hx : xs[k]? = some x) (hy : ys[k]? = some y) (h : xs.take k = ys.take k) (he : x = y) : xs.take (k + 1) = ys.take (k + 1) := by
  rw [List.take_add_one, List.take_add_one, hx, hy, h, he]

theorem equal_ok (hx : Slc w 10 encCell G a n xs) (hy : Slc w 10 encCell G b m ys) :
    CallC Tryz.prog 63 #[.slice a n c, .slice b m d] w fun v w' => v = .bool (decide (xs = ys)) ∧ Ext No w w' := by
  have hm := hx.max
  have hl := hx.len
  have hl2 := hy.len
  refine fn_intro tabOk Tryz.func63 (by kernel_rfl) rfl Tryz.ntmps63 (Nat.le_of_ble_eq_true rfl) ?_
  have hS := St.start w No
  (conv => whnf)
  refine brND (fun h1 => ?_) (fun h1 => ?_)
  · repeat' ((conv => whnf); first | refine RetC.mk ?_ | refine NzC.mk (by decide) ?_ | refine RngC.mk (by omega) (by omega) ?_ | refine IdxC.mk (by omega) (by omega) ?_ | refine brD (fun _ => ?_) (fun _ => ?_) | refine brND (fun _ => ?_) (fun _ => ?_) | refine brN (fun _ => ?_) (fun _ => ?_) | refine brI (fun _ => ?_) (fun _ => ?_))
    refine ⟨?_, hS.ext⟩
    have : xs ≠ ys := fun e => h1 (by rw [← hl, ← hl2, e])
    simp [this]
  have hnm : n = m := by omega
  subst hnm
  (conv => whnf)
  refine loopR tabOk (fun σ w' q => ∃ k : Nat, σ = [(13, .int .i64 k), (12, .int .i64 n), (1, .slice b n d), (0, .slice a n c)] ∧ q = n - k ∧ k ≤ n ∧ St w No w' [] ∧ xs.take k = ys.take k)
    (σ' := [(13, .int .i64 ((0 : Nat) : Int)), (12, .int .i64 n), (1, .slice b n d), (0, .slice a n c)]) (n := n) ⟨rfl, rfl, rfl, rfl, trivial⟩ ⟨0, rfl, rfl, Nat.zero_le _, hS, rfl⟩ ?_
  clear hS
  rintro _ w1 q ⟨k, rfl, rfl, hk, hS, hi⟩
  (conv => whnf)
  refine brD (fun h3 => ?_) (fun h3 => ?_)
  · obtain ⟨b0, o0, x, hxk, _, rfl, _, hc⟩ := hx.at (k := k) (by omega)
    obtain ⟨b1, o1, y, hyk, _, rfl, _, hd⟩ := hy.at (k := k) (by omega)
    repeat' ((conv => whnf); first | refine RetC.mk ?_ | refine NzC.mk (by decide) ?_ | refine RngC.mk (by omega) (by omega) ?_ | refine IdxC.mk (by omega) (by omega) ?_ | (refine drawL tabOk mixed [] No [0, 1, 2, 3, 4, 5, 6, 7, 8] rfl (by kernel_rfl) ?_; rintro w1 rfl; replace hS := hS.drew) | refine hS.larF (l := encCell x) rfl hc id id ?_ | refine hS.larF (l := encCell y) rfl hd id id ?_ | refine neCell ?_ | refine brD (fun _ => ?_) (fun _ => ?_) | refine brND (fun _ => ?_) (fun _ => ?_) | refine brN (fun _ => ?_) (fun _ => ?_) | refine brI (fun _ => ?_) (fun _ => ?_))
    · rename_i h4
      refine ⟨?_, hS.ext⟩
      have : xs ≠ ys := fun e => h4 (by subst e; exact Option.some.inj (hxk.symm.trans hyk))
      simp [this]
    · rename_i h4
      refine LoopE.mk ⟨_, [(13, .int .i64 ((k + 1 : Nat) : Int)), (12, _), (1, _), (0, _)], ?_, ⟨rfl, rfl, rfl, rfl, trivial⟩, ⟨k + 1, rfl, rfl, by omega, hS, take_succ_eq hxk hyk hi h4⟩⟩
      omega
  · repeat' ((conv => whnf); first | refine RetC.mk ?_ | refine NzC.mk (by decide) ?_ | refine RngC.mk (by omega) (by omega) ?_ | refine IdxC.mk (by omega) (by omega) ?_ | refine brD (fun _ => ?_) (fun _ => ?_) | refine brND (fun _ => ?_) (fun _ => ?_) | refine brN (fun _ => ?_) (fun _ => ?_) | refine brI (fun _ => ?_) (fun _ => ?_))
    have : k = n := by omega
    subst this
    rw [List.take_of_length_le (by omega), List.take_of_length_le (by omega)] at hi
    exact ⟨by simp [hi], hS.ext⟩
end
theorem Ev.St.ownNe {w0 w : World} {S : Nat → Prop} {H : List Ent} (h : St w0 S w H) (i j : Nat) {α : Type} {b : Nat} {t e : TypeId} {cs : List Value} {sz n c : Nat} {enc : α → List Value} {a : Option Addr} {xs : List α} (hi : H[i]? = some (Ev.blk b t cs)) (hj : H[j]? = some (ownL e sz enc (.slice a n c) xs)) (hne : i ≠ j) : ∀ b0 o0, a = some ⟨b0, o0, none⟩ → b0 ≠ b := by
  rintro b0 o0 rfl rfl
  have := pairwise_at apart_symm h.apart hi hj hne b0 (by simp [Ev.blk])
  simp [ownL, own, Value.ownBlock] at this
end Go.Proofs.YtoaghhcjlfiflaaGreatDoor
