
/-
  Slices and rows of elements that are encoded by so many cells each: what is read, what is written, append of one slice onto another.
-/
import Derived.Test.YtakdekkieobbaaaDoorEvI
import Derived.Test.YtakdekkieobbaaaDoorLawA
import Derived.Deep.Upon
namespace Go.Proofs.YtakdekkieobbaaaDoor.Ev
open Go

structure Codec {α : Type} (sz : Nat) (enc : α → List Value) : Prop where
  len : ∀ x, (enc x).length = sz
  one : ∀ x, (enc x).all isOne = true
  pos : 0 < sz

section
variable {α : Type} {sz : Nat} {enc : α → List Value}

theorem flat_len (C : Codec sz enc) (xs : List α) : (xs.flatMap enc).length = xs.length * sz := by
  induction xs with
  | nil => simp
  | cons x xs ih => rw [List.flatMap_cons, List.length_append, ih, C.len, List.length_cons]; rw [Nat.succ_mul]; omega
theorem flat_one (C : Codec sz enc) (xs : List α) : (xs.flatMap enc).all isOne = true := by
  induction xs with
  | nil => rfl
  | cons x xs ih => rw [List.flatMap_cons, List.all_append, ih, C.one]; rfl
theorem flat_split (C : Codec sz enc) : ∀ {xs : List α} {k : Nat} {x : α}, xs[k]? = some x → xs.flatMap enc = (xs.take k).flatMap enc ++ (enc x ++ (xs.drop (k + 1)).flatMap enc) ∧ ((xs.take k).flatMap enc).length = k * sz
  | [], _, _, h => by simp at h
  | y :: xs, 0, x, h => by
    simp only [List.getElem?_cons_zero, Option.some.injEq] at h
    subst h
    simp
  | y :: xs, k + 1, x, h => by
    simp only [List.getElem?_cons_succ] at h
    obtain ⟨h1, h2⟩ := flat_split C h
    constructor
    · rw [List.flatMap_cons, List.take_succ_cons, List.flatMap_cons, List.drop_succ_cons, List.append_assoc, ← h1]
    · rw [List.take_succ_cons, List.flatMap_cons, List.length_append, h2, C.len, Nat.succ_mul]; omega
theorem flat_get (C : Codec sz enc) {xs : List α} {k j : Nat} {x : α} {v : Value} (hx : xs[k]? = some x) (hv : (enc x)[j]? = some v) : (xs.flatMap enc)[k * sz + j]? = some v := by
  obtain ⟨h1, h2⟩ := flat_split C hx
  have hj := (List.getElem?_eq_some_iff.1 hv).1
  rw [h1, List.getElem?_append_right (by omega), h2, Nat.add_sub_cancel_left, List.getElem?_append_left hj]
  exact hv
theorem flat_sub (C : Codec sz enc) {xs : List α} {k j n : Nat} {x : α} (hx : xs[k]? = some x) (hn : j + n ≤ sz) : ((xs.flatMap enc).drop (k * sz + j)).take n = ((enc x).drop j).take n := by
  obtain ⟨h1, h2⟩ := flat_split C hx
  have hl := C.len x
  rw [h1, List.drop_append, h2, Nat.add_sub_cancel_left, List.drop_eq_nil_of_le (by omega), List.nil_append, List.drop_append, List.take_append_of_le_length (by simp; omega)]
theorem over_mid (A B D vs : List Value) (j : Nat) (h : j + vs.length ≤ B.length) : over (A ++ (B ++ D)) (A.length + j) vs = A ++ (over B j vs ++ D) := by
  unfold over
  rw [List.take_append, List.drop_append, List.take_of_length_le (by omega), Nat.add_sub_cancel_left, List.drop_eq_nil_of_le (by omega), List.take_append_of_le_length (by omega), List.nil_append]
  rw [show A.length + j + vs.length - A.length = j + vs.length by omega, List.drop_append_of_le_length h]
  simp
theorem flat_over (C : Codec sz enc) {xs : List α} {k j : Nat} {x y : α} {vs : List Value} (hx : xs[k]? = some x) (hn : j + vs.length ≤ sz) (hy : over (enc x) j vs = enc y) : over (xs.flatMap enc) (k * sz + j) vs = (xs.set k y).flatMap enc := by
  obtain ⟨h1, h2⟩ := flat_split C hx
  have hl := C.len x
  have hlt := (List.getElem?_eq_some_iff.1 hx).1
  rw [h1, ← h2, over_mid _ _ _ _ _ (by omega), hy]
  have hy' : (xs.set k y)[k]? = some y := by rw [List.getElem?_set_self hlt]
  rw [(flat_split C hy').1, List.take_set_of_le (by omega), List.drop_set_of_lt (by omega)]
theorem over_whole {cs vs : List Value} (h : vs.length = cs.length) : over cs 0 vs = vs := by
  unfold over
  rw [List.drop_eq_nil_of_le (by omega)]
  simp
theorem over_cons (p : Value) (cs vs : List Value) (o : Nat) : over (p :: cs) (o + 1) vs = p :: over cs o vs := by
  unfold over
  rw [List.take_succ_cons, show o + 1 + vs.length = (o + vs.length) + 1 by omega, List.drop_succ_cons]
  rfl

/-! ### Slices that are read -/
variable {G : α → Prop} {w w' : World} {S T : Nat → Prop} {a : Option Addr} {b o n : Nat} {xs : List α}
theorem Slc.ext (h : Slc w sz enc G a n xs) (hx : Ext S w w') (hS : ∀ b o, a = some ⟨b, o, none⟩ → ¬ S b) : Slc w' sz enc G a n xs :=
  ⟨h.len, h.max, fun k x hk => by
    obtain ⟨b, o, ha, hb, hc⟩ := h.cells k x hk
    exact ⟨b, o, ha, Nat.lt_of_lt_of_le hb hx.size, hx.cells hc (hS b o ha)⟩, h.good⟩
theorem Slc.no (h : Slc w sz enc G a n xs) (hx : Ext No w w') : Slc w' sz enc G a n xs := h.ext hx fun _ _ _ h => h
theorem Slc.at (h : Slc w sz enc G a n xs) {k : Nat} (hk : k < n) : ∃ b o x, xs[k]? = some x ∧ G x ∧ a = some ⟨b, o, none⟩ ∧ b < w.heap.size ∧ CellsAt w b (o + k * sz) (enc x) := by
  have hlt : k < xs.length := by rw [h.len]; exact hk
  obtain ⟨b, o, ha, hb, hc⟩ := h.cells k _ (List.getElem?_eq_getElem hlt)
  exact ⟨b, o, _, List.getElem?_eq_getElem hlt, h.good _ (List.getElem_mem hlt), ha, hb, hc⟩
theorem CellsAt.one {l : List Value} (h : CellsAt w b o l) (j : Nat) {v : Value} (hv : l[j]? = some v) : w.cell? ⟨b, o + j, none⟩ = some v := h j v hv
theorem CellsAt.sub {l : List Value} (h : CellsAt w b o l) (j : Nat) {l' : List Value} (hl : (l.drop j).take l'.length = l') : CellsAt w b (o + j) l' := fun i v hi => by
  rw [Nat.add_assoc]
  refine h (j + i) v ?_
  have hlt := (List.getElem?_eq_some_iff.1 hi).1
  rw [← hl, List.getElem?_take_of_lt hlt, List.getElem?_drop] at hi
  exact hi
theorem CellsAt.lt {l : List Value} (h : CellsAt w b o l) (hl : 0 < l.length) : b < w.heap.size := cell_lt (h 0 _ (List.getElem?_eq_getElem hl))

theorem Slc.of_cells (C : Codec sz enc) (hl : xs.length = n) (hm : n ≤ 9223372036854775807) (hg : ∀ x ∈ xs, G x) (hc : ∀ (j : Nat) v, (xs.flatMap enc)[j]? = some v → ∃ b o, a = some ⟨b, o, none⟩ ∧ w.cell? ⟨b, o + j, none⟩ = some v) : Slc w sz enc G a n xs :=
  ⟨hl, hm, fun k x hk => by
    have hp := C.pos
    have hlx := C.len x
    obtain ⟨v0, hv0⟩ : ∃ v, (enc x)[0]? = some v := ⟨_, List.getElem?_eq_getElem (by omega)⟩
    obtain ⟨b, o, ha, hc0⟩ := hc _ _ (flat_get C hk hv0)
    refine ⟨b, o, ha, cell_lt hc0, fun j v hj => ?_⟩
    obtain ⟨b', o', ha', hc'⟩ := hc _ _ (flat_get C hk hj)
    rw [ha] at ha'
    simp only [Option.some.injEq, Addr.mk.injEq, and_true] at ha'
    obtain ⟨rfl, rfl⟩ := ha'
    rw [Nat.add_assoc]
    exact hc', hg⟩
/-- Part of a block. -/
theorem Slc.of_blk (C : Codec sz enc) {t : TypeId} {cs : List Value} (h : Blk w b t cs) (hl : xs.length = n) (hm : n ≤ 9223372036854775807) (hg : ∀ x ∈ xs, G x) (hs : (cs.drop o).take (xs.length * sz) = xs.flatMap enc) : Slc w sz enc G (some ⟨b, o, none⟩) n xs :=
  Slc.of_cells C hl hm hg fun j v hj => ⟨b, o, rfl, by
    have hlt := (List.getElem?_eq_some_iff.1 hj).1
    rw [flat_len C] at hlt
    rw [h.cell, ← List.getElem?_drop, ← List.getElem?_take_of_lt hlt, hs]
    exact hj⟩

/-- A slice of the call's own, of encoded elements. -/
def ownL {α : Type} (e : TypeId) (sz : Nat) (enc : α → List Value) (v : Value) (xs : List α) : Ent := own e sz v xs.length (xs.flatMap enc)
theorem ownL_local {e : TypeId} {v : Value} : (ownL e sz enc v xs).Local := own_local _ _ _ _ _
theorem ownL_form {e : TypeId} {v : Value} (h : (ownL e sz enc v xs).holds w) : ∃ c, v = .slice a n c → n = xs.length := by
  obtain ⟨_, ⟨h1, h2⟩ | ⟨g, c, cur, h1, _⟩⟩ := h
  · exact ⟨0, fun h3 => by rw [h1] at h3; cases h3; rw [h2]⟩
  · exact ⟨0, fun h3 => by rw [h1] at h3; cases h3; rfl⟩
theorem ownL_slc (C : Codec sz enc) {e : TypeId} {c : Nat} (h : (ownL e sz enc (.slice a n c) xs).holds w) (hg : ∀ x ∈ xs, G x) : Slc w sz enc G a n xs := by
  obtain ⟨h1, ⟨h2, h3⟩ | ⟨g, cap, cur, h2, h3, h4, h5, h6, h7, h8⟩⟩ := h
  · cases h2
    have hx : xs = [] := List.eq_nil_of_length_eq_zero h3
    subst hx
    exact ⟨rfl, by decide, by simp, by simp⟩
  · cases h2
    refine Slc.of_cells C rfl (by unfold maxLen at h6; omega) hg fun j v hj => ⟨g, 0, rfl, ?_⟩
    have hlt := (List.getElem?_eq_some_iff.1 hj).1
    rw [flat_len C] at hlt
    rw [← h8, List.getElem?_take_of_lt (by omega)] at hj
    simp only [World.cell?, h4, Nat.zero_add]
    simpa using hj
end

section
variable {P : Program} {α : Type} {sz : Nat} {enc : α → List Value} {w0 w w' : World} {S T : Nat → Prop} {H : List Ent}

theorem oneCell_of {v : Value} (h : isOne v = true) : v.oneCell' = true := by cases v <;> simp_all [isOne, Value.oneCell']

/-- The new row of an append lies in the old one, or was made. -/
theorem grew (h : St w0 S w H) {i : Nat} {e : TypeId} {size : Nat} {v v' : Value} {n n' : Nat} {xs xs' : List Value} (hi : H[i]? = some (own e size v n xs)) (ho : w'.ownsRow 0 e size v' n' xs') (hg : w.grownBy w' v.ownBlock) (hb : v'.ownBlock = v.ownBlock ∨ v'.ownBlock = some w.heap.size) :
    St w0 S w' (H.set i (own e size v' n' xs')) := by
  refine h.upd i hi (Ext.of_grown hg) (fun q hq => by simp [own, hq]) (own_local _ _ _ _ _) ho ?_
  intro q hq
  have hq : v'.ownBlock = some q := by simpa [own] using hq
  rcases hb with hb | hb
  · left; simp only [own]; rw [← hb, hq]; simp
  · right
    rw [hb] at hq
    simp only [Option.some.injEq] at hq
    subst hq
    refine ⟨Nat.le_refl _, ?_⟩
    obtain ⟨_, ⟨h6, _⟩ | ⟨g, cap, cur, h6, _, h7, _⟩⟩ := ho
    · rw [h6] at hb; simp [Value.ownBlock] at hb
    · rw [h6] at hb
      simp only [Value.ownBlock, Option.some.injEq] at hb
      subst hb
      exact (Array.getElem?_eq_some_iff.1 h7).1

/-- append of a slice that can be read onto a slice of the call's own. -/
theorem St.appS (h : St w0 S w H) (C : Codec sz enc) (i : Nat) {t e : TypeId} {bytes : Nat} {z v : Value} {a : Option Addr} {m c : Nat} {G : α → Prop} {xs ys : List α} {k : Value → World → Prop}
    (hu : P.underlying t = some (.slice e)) (hs : (P.info? e).map (fun i => (i.size, i.bytes)) = some (sz, bytes)) (hz : (P.info? e).bind (·.zero) = some z) (hzs : Nat.beq z.cells.size sz = true)
    (hi : H[i]? = some (ownL e sz enc v xs)) (hy : Slc w sz enc G a m ys) (h63 : xs.length + m ≤ maxLen) (hbytes : (xs.length + m) * bytes ≤ 140737488355328)
    (hk : ∀ a' c' w', St w0 S w' (H.set i (ownL e sz enc (.slice a' (xs.length + m) c') (xs ++ ys))) → k (.slice a' (xs.length + m) c') w') :
    RunC P (Builtin.append_ #[t, t] 0 #[v, .slice a m c]) w k := by
  obtain ⟨ie, h1', h2⟩ := Option.map_eq_some_iff.1 hs
  obtain ⟨ie', h3, h4⟩ := Option.bind_eq_some_iff.1 hz
  obtain rfl := Option.some.inj (h1'.symm.trans h3)
  simp only [Prod.mk.injEq] at h2
  have hlen := hy.len
  have hen : xs.length + m = (xs ++ ys).length := by simp [hlen]
  have hef : (xs ++ ys).flatMap enc = xs.flatMap enc ++ ys.flatMap enc := by simp
  have form : ∀ (v' : Value) (w' : World), w'.ownsRow 0 e sz v' (xs.length + m) (xs.flatMap enc ++ ys.flatMap enc) → ∃ a' c', v' = .slice a' (xs.length + m) c' := by
    rintro v' w' ⟨_, ⟨h6, h7⟩ | ⟨g, cap, cur, h6, _⟩⟩
    · exact ⟨none, 0, by rw [h6, h7]⟩
    · exact ⟨_, _, h6⟩
  cases a with
  | none =>
    have hm : ys = [] := by
      cases ys with
      | nil => rfl
      | cons y ys => obtain ⟨b, o, ha, _⟩ := hy.cells 0 y rfl; cases ha
    subst hm
    have hm : m = 0 := by simpa using hlen.symm
    subst hm
    have ho := h.get i hi
    obtain ⟨a', c', hv⟩ := form v w (by simpa [ownL, own] using ho)
    subst hv
    have hle : xs.length ≤ c' := by
      obtain ⟨_, ⟨h6, h7⟩ | ⟨g, cap, cur, h6, _, _, h8, _⟩⟩ := ho
      · simp only [Value.slice.injEq] at h6; omega
      · simp only [Value.slice.injEq] at h6; omega
    refine ⟨.slice a' (xs.length + 0) c', w, ?_, hk a' c' w ?_⟩
    · refine run_append_nothing w t t 0 e ie hu h1' a' (xs.length + 0) c' hle (.slice none 0 c) ⟨.inl ⟨_, hu⟩, fun w' => rfl, rfl, rfl, by simp, by simp⟩
    · have : H.set i (ownL e sz enc (.slice a' (xs.length + 0) c') (xs ++ [])) = H := by
        rw [List.append_nil]
        obtain ⟨hl, he⟩ := List.getElem?_eq_some_iff.1 hi
        apply List.ext_getElem?
        intro j
        rw [List.getElem?_set]
        split
        · rename_i he'
          subst he'
          simp [hl, he]
        · rfl
      rw [this]
      exact h
  | some a =>
    have hsp : ∀ j u, (ys.flatMap enc)[j]? = some u → w.cell? (a.add j) = some u := by
      intro j u hj
      have hlt := (List.getElem?_eq_some_iff.1 hj).1
      rw [flat_len C] at hlt
      have hk : j / sz < ys.length := by rw [Nat.div_lt_iff_lt_mul C.pos]; exact hlt
      obtain ⟨b, o, ha, _, hc⟩ := hy.cells (j / sz) _ (List.getElem?_eq_getElem hk)
      simp only [Option.some.injEq] at ha
      subst ha
      rw [add_none]
      have e1 : j = j / sz * sz + j % sz := by rw [Nat.mul_comm]; exact (Nat.div_add_mod j sz).symm
      have hmod : j % sz < (enc ys[j / sz]).length := by rw [C.len]; exact Nat.mod_lt _ C.pos
      have h5 := flat_get C (List.getElem?_eq_getElem hk) (List.getElem?_eq_getElem hmod)
      rw [← e1, hj] at h5
      simp only [Option.some.injEq] at h5
      have := hc (j % sz) u (by rw [List.getElem?_eq_getElem hmod, h5])
      rw [Nat.add_assoc, ← e1] at this
      exact this
    obtain ⟨v', w', hr, ho, hg, hnil, hb⟩ := run_append_own_at (P := P) w 0 t 0 e ie z sz bytes hu h1' h4 h2.1 h2.2 (Nat.eq_of_beq_eq_true hzs) C.pos v xs.length (xs.flatMap enc) (h.get i hi) a m c (ys.flatMap enc) (by rw [flat_len C, hlen])
      hsp (fun u hu => oneCell_of (List.all_eq_true.1 (flat_one C ys) u hu)) h63 hbytes (Nat.zero_le _)
    obtain ⟨a', c', rfl⟩ := form v' w' ho
    refine ⟨_, _, hr, hk a' c' w' ?_⟩
    have := grew h hi ho hg hb
    simpa [ownL, hlen] using this

/-- An empty slice literal. -/
theorem St.lit0 (h : St w0 S w H) {t e : TypeId} {sz : Nat} {k : Value → World → Prop}
    (hu : P.underlying t = some (.slice e)) (hs : (P.info? e).map (·.size) = some sz)
    (hk : ∀ b w', St w0 S w' (H ++ [own e sz (.slice (some ⟨b, 0, none⟩) 0 0) 0 []]) → k (.slice (some ⟨b, 0, none⟩) 0 0) w') : RunC P (Instr.buildSlice t 0 #[]) w k := by
  obtain ⟨ie, h1, h2⟩ := Option.map_eq_some_iff.1 hs
  refine ⟨.slice (some ⟨w.heap.size, 0, none⟩) 0 0, pushBlk w e [], ?_, hk w.heap.size (pushBlk w e []) ?_⟩
  · simp [Instr.buildSlice, underlying, hu, sizeOf, typeInfo, h1, Instr.fill, newRow, newObj, Sem.run, pushBlk]
    rw [show Array.range 0 = #[] from by simp]
    simp
  · refine h.made (Ext.push _ _ _ _) (own_local _ _ _ _ _) ⟨by simp, .inr ⟨w.heap.size, 0, #[], rfl, Nat.zero_le _, ?_, Nat.le_refl _, Nat.zero_le _, by simp, by simp⟩⟩ ?_
    · show (w.heap.push _)[w.heap.size]? = _
      rw [Array.getElem?_push, if_pos rfl]
    · intro q hq
      obtain rfl : q = w.heap.size := by simpa [own, Value.ownBlock] using hq
      simp [pushBlk]

theorem over_len {cs vs : List Value} {o : Nat} (h : o + vs.length ≤ cs.length) : (over cs o vs).length = cs.length := by
  simp only [over, List.length_append, List.length_take, List.length_drop]
  omega
theorem over_take {cs vs : List Value} {o n : Nat} (h : o + vs.length ≤ n) (hn : n ≤ cs.length) : (over cs o vs).take n = over (cs.take n) o vs := by
  have e := over_mid [] (cs.take n) (cs.drop n) vs o (by rw [List.length_take]; omega)
  simp only [List.nil_append, List.length_nil, Nat.zero_add, List.take_append_drop] at e
  have hl : (over (cs.take n) o vs).length = n := by rw [over_len (by rw [List.length_take]; omega), List.length_take]; omega
  rw [e, List.take_append_of_le_length (by omega), List.take_of_length_le (by omega)]

/-- A store into a slice of the call's own. -/
theorem St.ownSt (h : St w0 S w H) (i : Nat) {e : TypeId} {size n o b : Nat} {n' c : Nat} {xs vs : List Value} {k : World → Prop} (hi : H[i]? = some (own e size (.slice (some ⟨b, 0, none⟩) n' c) n xs)) (hle : o + vs.length ≤ xs.length) (h1 : vs.all isOne = true)
    (hk : ∀ w', St w0 S w' (H.set i (own e size (.slice (some ⟨b, 0, none⟩) n' c) n (over xs o vs))) → k w') : StC w b o vs k := by
  obtain ⟨h2, ⟨h3, _⟩ | ⟨g, cap, cur, h3, h4, h5, h6, h7, h8, h9⟩⟩ := h.get i hi
  · cases h3
  cases h3
  have hcl : n * size ≤ cur.size := by rw [h8]; exact Nat.mul_le_mul_right _ h6
  have hb : Blk w b e cur.toList := by simpa [Blk] using h5
  have hx : xs.length = n * size := h2
  refine ⟨e, cur.toList, hb, by simp; omega, by simpa using h1, hk _ (h.upd i hi (T := (· = b)) (Ext.set (S := (· = b)) (b := b) rfl e _) (fun q hq => by simp [own, Value.ownBlock, hq]) (own_local _ _ _ _ _) ?_ fun q hq => .inl hq)⟩
  have hov : (over cur.toList o vs).length = cur.size := by
    have hl : o + vs.length ≤ cur.size := by omega
    simp only [over, List.length_append, List.length_take, List.length_drop, Array.length_toList]
    omega
  refine ⟨by simp only [over, List.length_append, List.length_take, List.length_drop]; omega, .inr ⟨b, c, (over cur.toList o vs).toArray, rfl, h4, ?_, h6, h7, by rw [List.size_toArray, hov, h8], ?_⟩⟩
  · have := setBlk_blk (t := e) (cs := over cur.toList o vs) hb.lt
    exact this
  · rw [List.toList_toArray, over_take (by omega) (by simpa using hcl), h9]
end
end Go.Proofs.YtakdekkieobbaaaDoor.Ev
