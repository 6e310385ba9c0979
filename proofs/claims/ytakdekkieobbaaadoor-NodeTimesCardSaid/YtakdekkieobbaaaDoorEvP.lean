
/-
  Slices cut anew; a slice grown by zeros; a literal as a slice of the call's own.
-/
import Derived.Test.YtakdekkieobbaaaDoorEvN
import Derived.Test.YtakdekkieobbaaaDoorEvO
import Derived.Lib.AppendZerosOnto
import Derived.Laws.Slices
namespace Go.Proofs.YtakdekkieobbaaaDoor.Ev
open Go Go.WideShapes

section
variable {P : Program} {α : Type} {sz : Nat} {enc : α → List Value} {w0 w w' : World} {S : Nat → Prop} {H : List Ent} {G : α → Prop} {a : Option Addr} {n c : Nat} {xs : List α}

theorem elem_of {t e : TypeId} (hu : P.underlying t = some (.slice e)) : P.elem t = e := by simp [Program.elem, hu]

theorem Slc.drop (h : Slc w sz enc G a n xs) (l : Nat) (hl : l ≤ n) (a' : Option Addr) (ha : l < n → a' = a.map (·.add (l * sz))) : Slc w sz enc G a' (n - l) (xs.drop l) := by
  refine ⟨by rw [List.length_drop, h.len], by have := h.max; omega, fun k x hx => ?_, fun x hx => h.good x (List.mem_of_mem_drop hx)⟩
  rw [List.getElem?_drop] at hx
  have lt := (List.getElem?_eq_some_iff.1 hx).1
  rw [h.len] at lt
  obtain ⟨b, o, rfl, hb, hc⟩ := h.cells _ _ hx
  refine ⟨b, o + l * sz, by rw [ha (by omega), Option.map_some, add_none], hb, ?_⟩
  have : o + l * sz + k * sz = o + (l + k) * sz := by rw [Nat.add_mul]; omega
  rw [this]
  exact hc
theorem Slc.take (h : Slc w sz enc G a n xs) (l : Nat) (hl : l ≤ n) (a' : Option Addr) (ha : 0 < n → a' = a) : Slc w sz enc G a' l (xs.take l) := by
  refine ⟨by rw [List.length_take, h.len]; omega, by have := h.max; omega, fun k x hx => ?_, fun x hx => h.good x (List.mem_of_mem_take hx)⟩
  have lt := (List.getElem?_eq_some_iff.1 hx).1
  rw [List.length_take] at lt
  rw [List.getElem?_take_of_lt (by omega)] at hx
  have lt2 := (List.getElem?_eq_some_iff.1 hx).1
  rw [h.len] at lt2
  obtain ⟨b, o, hab, hb, hc⟩ := h.cells _ _ hx
  exact ⟨b, o, by rw [ha (by omega), hab], hb, hc⟩
theorem add0 {b o : Nat} : (⟨b, o, none⟩ : Addr).add 0 = ⟨b, o, none⟩ := rfl
/-- 's[:j]'. -/
theorem slcHead {t e : TypeId} {q : IntKind} {i : Int} {j : Nat} {k : Value → Prop} (hx : Slc w sz enc G a n xs) (hnc : n ≤ c) (hu : P.underlying t = some (.slice e)) (he : (P.info? e).isSome = true) (hi : i = (j : Int)) (hj : j ≤ n)
    (hk : ∀ a' c', Slc w sz enc G a' j (xs.take j) → k (.slice a' j c')) : PureC P (Instr.sliceAt t (.slice a n c) none (some (.int q i)) none) k := by
  subst hi
  have ht : P.underlying t = some (.slice (P.elem t)) := by rw [elem_of hu]; exact hu
  refine ⟨.slice (if c = 0 then a else a.map (·.add 0)) j c, fun w => ?_, hk _ _ (hx.take j hj _ fun h0 => ?_)⟩
  · rw [run_sliceAt_slice w t _ _ _ _ ht, run_slice_h w t a n c ht q _ (by omega) (by omega), elem_of hu, cellsOf_run he]
    simp [sliced]
  · obtain ⟨x, hx0⟩ : ∃ x, xs[0]? = some x := ⟨_, List.getElem?_eq_getElem (by rw [hx.len]; exact h0)⟩
    obtain ⟨b, o, rfl, _⟩ := hx.cells 0 x hx0
    split <;> rfl
/-- 's[j:]'. -/
theorem slcTail {t e : TypeId} {q : IntKind} {i : Int} {j : Nat} {k : Value → Prop} (hx : Slc w sz enc G a n xs) (hnc : n ≤ c) (hu : P.underlying t = some (.slice e)) (he : (P.info? e).isSome = true) (hsz : P.cellsOf e = sz) (hi : i = (j : Int)) (hj : j ≤ n)
    (hk : ∀ a' c', Slc w sz enc G a' (n - j) (xs.drop j) → n - j ≤ c' → k (.slice a' (n - j) c')) : PureC P (Instr.sliceAt t (.slice a n c) (some (.int q i)) none none) k := by
  subst hi
  have ht : P.underlying t = some (.slice (P.elem t)) := by rw [elem_of hu]; exact hu
  refine ⟨.slice (if c = j then a else a.map (·.add (j * sz))) (n - j) (c - j), fun w => ?_, hk _ _ (hx.drop j hj _ fun h0 => if_neg (by omega)) (by omega)⟩
  rw [run_sliceAt_slice w t _ _ _ _ ht, run_slice_l w t a n c ht q _ (by omega) (by omega), elem_of hu, cellsOf_run he, hsz]
  simp [sliced]

theorem St.lit_own (h : St w0 S w H) (C : Codec sz enc) (i : Nat) {b : Nat} {e : TypeId} {cs : List Value} (hi : H[i]? = some (Ev.blk b e cs)) (xs : List α) (n : Nat) (hn : xs.length = n) (hm : n ≤ maxLen) (hc : cs = xs.flatMap enc) : St w0 S w (H.set i (ownL e sz enc (.slice (some ⟨b, 0, none⟩) n n) xs)) := by
  subst hc
  subst hn
  have hb := h.blk i hi
  refine h.upd i hi (T := No) (Ext.refl _ _) (fun _ h => h.elim) ownL_local ?_ (fun c hc => .inl hc)
  refine ⟨flat_len C xs, .inr ⟨b, xs.length, (xs.flatMap enc).toArray, rfl, Nat.zero_le _, hb, Nat.le_refl _, hm, by simp [flat_len C], ?_⟩⟩
  show ((xs.flatMap enc).toArray.toList).take (xs.length * sz) = _
  rw [List.take_of_length_le (by rw [flat_len C]; exact Nat.le_refl _)]

/-- 'append(nil, make([]T, n)...)': n zeros, of the call's own. -/
theorem growZ {w : World} {t tn e : TypeId} {sz bytes n : Nat} {z : Value} {kq : IntKind} {k : Value → World → Prop} (hu : P.underlying t = some (.slice e)) (hun : P.underlying tn = some (.int .i64)) (hs : (P.info? e).map (fun i => (i.size, i.bytes)) = some (sz, bytes)) (hz : (P.info? e).bind (·.zero) = some z) (hzs : z.cells.size = sz)
    (h0 : 0 < n) (hs0 : 0 < sz) (h63 : n ≤ maxLen) (hbig : n * bytes ≤ 140737488355328)
    (hk : ∀ g cap w', Ext No w w' → w.heap.size ≤ g → (own e sz (.slice (some ⟨g, 0, none⟩) 0 cap) 0 []).holds w' → k (.slice (some ⟨g, 0, none⟩) n cap) w') : RunC P (Builtin.append_ #[t, tn] 0 #[.slice none 0 0, .int kq (n : Int)]) w k := by
  obtain ⟨ie, e1, e2⟩ := Option.map_eq_some_iff.1 hs
  obtain ⟨ie', e3, e4⟩ := Option.bind_eq_some_iff.1 hz
  obtain rfl := Option.some.inj (e1.symm.trans e3)
  simp only [Prod.mk.injEq] at e2
  have hold : (Builtin.firstCells ie.size 0 (.slice none 0 0)).run P w.drew = .ok ([] : List Value).toArray w.drew := run_firstCells_none w.drew ie.size 0 0 0
  have hr := Lib.run_append_grow_zeros w t tn 0 e ie z kq .i64 hu hun e1 e4 none 0 0 [] hold n h0 (by omega) (by omega) (by unfold maxLen at h63; omega) (by rw [e2.2]; omega) (by rw [Nat.zero_add, e2.2]; exact growslice_fits h0 hbig)
  rw [Nat.zero_add] at hr
  refine ⟨_, _, hr, hk _ _ _ ⟨rfl, rfl, rfl, ?_, fun b hb _ => ?_⟩ (Nat.le_refl _) ⟨by simp, .inr ⟨w.heap.size, _, ([].toArray ++ Builtin.zeroCells z.cells n ++ Builtin.zeroCells z.cells (grownCap w n 0 e - n)), rfl, Nat.zero_le _, ?_, Nat.zero_le _, grownCap_le_maxLen w n 0 e h63, ?_, ?_⟩⟩⟩
  · show w.heap.size ≤ (w.heap.push _).size
    rw [Array.size_push]
    omega
  · show (w.heap.push _)[b]? = _
    rw [Array.getElem?_push, if_neg (by omega)]
  · show (w.heap.push _)[w.heap.size]? = _
    rw [Array.getElem?_push, if_pos rfl]
  · have hge := grownCap_ge w n 0 e
    have hzc : ∀ m, (Builtin.zeroCells z.cells m).size = m * sz := fun m => by simp [Builtin.zeroCells, hzs]
    simp only [Array.size_append, hzc, List.size_toArray, List.length_nil, Nat.zero_add]
    rw [← Nat.add_mul]
    congr 1
    omega
  · simp
end

/-! ### The same steps, with how far they turn the world -/
theorem ownB_lt {α : Type} {w : World} {sz n : Nat} {e : TypeId} {v : Value} {enc : α → List Value} {xs : List α} (h : (ownL e sz enc v xs).holds w) (hg : v.ownBlock = some n) : n < w.heap.size := by
  obtain ⟨_, ⟨h1, _⟩ | ⟨g', cap, cur, h1, _, h2, _⟩⟩ := h
  · rw [h1] at hg; simp [Value.ownBlock] at hg
  · rw [h1] at hg
    simp only [Value.ownBlock, Option.some.injEq] at hg
    subst hg
    exact (Array.getElem?_eq_some_iff.1 h2).1
theorem St.appX {P : Program} {α : Type} {sz : Nat} {enc : α → List Value} {w0 w : World} {S : Nat → Prop} {H : List Ent} (h : St w0 S w H) (C : Codec sz enc) (i : Nat) {t e : TypeId} {bytes : Nat} {z v : Value} {a : Option Addr} {m c : Nat} {G : α → Prop} {xs ys : List α} {k : Value → World → Prop}
    (hu : P.underlying t = some (.slice e)) (hs : (P.info? e).map (fun i => (i.size, i.bytes)) = some (sz, bytes)) (hz : (P.info? e).bind (·.zero) = some z) (hzs : Nat.beq z.cells.size sz = true)
    (hi : H[i]? = some (ownL e sz enc v xs)) (hy : Slc w sz enc G a m ys) (h63 : xs.length + m ≤ maxLen) (hbytes : (xs.length + m) * bytes ≤ 140737488355328)
    (hk : ∀ a' c' w', Ext (fun q => v.ownBlock = some q) w w' → St w0 S w' (H.set i (ownL e sz enc (.slice a' (xs.length + m) c') (xs ++ ys))) → k (.slice a' (xs.length + m) c') w') :
    RunC P (Builtin.append_ #[t, t] 0 #[v, .slice a m c]) w k := by
  have ho := h.get i hi
  have hs1 : St w (fun q => v.ownBlock = some q) w [ownL e sz enc v xs] := (St.start w _).add ownL_local ho (fun q hq => by
    have hq : v.ownBlock = some q := by simpa [ownL, own] using hq
    exact ⟨.inl hq, ownB_lt ho hq⟩) (by simp)
  refine hs1.appS C 0 hu hs hz hzs rfl hy h63 hbytes (fun a' c' w' hS' => ?_)
  refine hk a' c' w' hS'.ext (h.upd i hi hS'.ext (fun q hq => by simp [ownL, own, hq]) ownL_local (hS'.get 0 rfl) fun q hq => ?_)
  have hm := hS'.may _ (List.mem_of_getElem? (i := 0) rfl) q (by simpa using hq)
  rcases hm with ⟨h1 | h1, h2⟩
  · exact .inl (by simp [ownL, own, h1])
  · exact .inr ⟨h1, h2⟩
theorem St.litX {P : Program} {w0 w : World} {S : Nat → Prop} {H : List Ent} (h : St w0 S w H) {t e : TypeId} {len sz : Nat} {z : Value} {parts : Array (Nat × Value)} {cs : List Value} {k : Value → World → Prop}
    (hu : P.underlying t = some (.slice e)) (hs : (P.info? e).map (·.size) = some sz) (hz : (P.info? e).bind (·.zero) = some z) (hsmall : Nat.ble (len * sz) (2 ^ 24) = true) (hpos : Nat.beq (len * sz) 0 = false)
    (hf : fillK sz (zerosL z (len * sz)) parts.toList = some cs)
    (hk : ∀ b w', w.heap.size ≤ b → Ext No w w' → St w0 S w' (H ++ [Ev.blk b e cs]) → k (.slice (some ⟨b, 0, none⟩) len len) w') : RunC P (Instr.buildSlice t len parts) w k := by
  refine (St.start w No).lit hu hs hz hsmall hpos hf (fun b w' hb hS => ?_)
  refine hk b w' hb hS.ext (h.made hS.ext (blk_local _ _ _) (hS.get 0 rfl) fun q hq => ?_)
  obtain rfl : q = b := by simpa [Ev.blk] using hq
  exact ⟨hb, (hS.blk 0 rfl).lt⟩
end Go.Proofs.YtakdekkieobbaaaDoor.Ev
