
/-
  Slices that a call owns: a literal, append; one thing less known.
-/
import Derived.Test.YtakdekkieobbaaaDoorEvF
import Derived.Maps.AppendAt
import Derived.Great.BuildSlice
namespace Go.Proofs.YtakdekkieobbaaaDoor.Ev
open Go

section
variable {P : Program} {w0 w w' : World} {S T : Nat → Prop} {H : List Ent}

theorem St.keep (h : St w0 S w H) (n : Nat) : St w0 S w (H.take n) := h.weaken (List.take_sublist n H)

theorem Ext.of_grown {row : Option Nat} (h : w.grownBy w' row) : Ext (fun b => row = some b) w w' := ⟨h.os, h.tape, h.output, h.size, fun k hk hs => h.block k hk fun e => hs e.symm⟩

/-- A slice whose row is the call's own: its elements' cells are xs. -/
def own (e : TypeId) (size : Nat) (v : Value) (n : Nat) (xs : List Value) : Ent := ⟨v.ownBlock.toList, fun w => w.ownsRow 0 e size v n xs⟩
theorem own_local (e : TypeId) (size : Nat) (v : Value) (n : Nat) (xs : List Value) : (own e size v n xs).Local := by
  intro w w' h hh
  obtain ⟨h1, h2 | ⟨g, cap, cur, rfl, h3, h4, h5⟩⟩ := hh
  · exact ⟨h1, .inl h2⟩
  · exact ⟨h1, .inr ⟨g, cap, cur, rfl, h3, (h g (by simp [own, Value.ownBlock])).trans h4, h5⟩⟩
theorem own_nil (e : TypeId) (size : Nat) (w : World) : (own e size (.slice none 0 0) 0 []).holds w := ⟨by simp, .inl ⟨rfl, rfl⟩⟩

/-- What is owned, read. -/
theorem St.own_at (h : St w0 S w H) (i : Nat) {e : TypeId} {size n : Nat} {a : Option Addr} {n' c : Nat} {xs : List Value} (hi : H[i]? = some (own e size (.slice a n' c) n xs)) :
    n' = n ∧ xs.length = n * size ∧ n ≤ maxLen ∧ ∀ (j : Nat) x, xs[j]? = some x → ∃ g, a = some ⟨g, 0, none⟩ ∧ w.cell? ⟨g, 0 + j, none⟩ = some x := by
  obtain ⟨h1, ⟨h2, rfl⟩ | ⟨g, cap, cur, h2, h3, h4, h5, h6, h7, h8⟩⟩ := h.get i hi
  · cases h2
    exact ⟨rfl, h1, Nat.zero_le _, fun j x hj => by have := (List.getElem?_eq_some_iff.1 hj).1; omega⟩
  · cases h2
    refine ⟨rfl, h1, Nat.le_trans h5 h6, fun j x hj => ⟨g, rfl, ?_⟩⟩
    have hlt := (List.getElem?_eq_some_iff.1 hj).1
    rw [← h8] at hj
    rw [List.getElem?_take_of_lt (by omega)] at hj
    simp only [World.cell?, h4]
    simpa using hj

theorem alloc_eq (w : World) (e : TypeId) (cs : List Value) : w.alloc (.cells cs.toArray e) = pushBlk w e cs := rfl

def fillK (sz : Nat) : List Value → List (Nat × Value) → Option (List Value)
  | z, [] => some z
  | z, (i, v) :: r => match Nat.beq (cellsL v).length sz, Nat.ble (i * sz + sz) z.length with
    | true, true => fillK sz (over z (i * sz) (cellsL v)) r
    | _, _ => none
theorem fill_of {sz : Nat} : ∀ (parts : List (Nat × Value)) (z cs : List Value), fillK sz z parts = some cs → Instr.fill (fun i => some (i * sz, sz)) z.toArray parts = some cs.toArray
  | [], z, cs, h => by
    simp only [fillK, Option.some.injEq] at h
    subst h
    rfl
  | (i, v) :: r, z, cs, h => by
    unfold fillK at h
    split at h
    · rename_i h1 h2
      have hsz := Nat.eq_of_beq_eq_true h1
      have hle := Nat.le_of_ble_eq_true h2
      have ih := fill_of r _ cs h
      have e1 : v.cells.size = sz := by rw [← hsz, cellsL_eq]; simp
      have e3 : v.cells.zipIdx.foldl (fun (cs : Array Value) (x : Value × Nat) => cs.setIfInBounds (i * sz + x.2) x.1) z.toArray = (over z (i * sz) (cellsL v)).toArray := by
        have := over_set (cellsL v) z (i * sz) 0 (by omega)
        rw [← Array.foldl_toList]
        simpa [cellsL_eq] using this
      unfold Instr.fill
      simp only []
      rw [if_neg (by simp only [List.size_toArray]; rw [e1]; simp; omega), ← ih]
      congr 1
    · cases h
def zerosL (z : Value) (n : Nat) : List Value := (List.range n).map fun i => (cellsL z)[i % (cellsL z).length]!
theorem zeros_eq (z : Value) (n : Nat) : (Array.range n).map (z.cells[· % z.cells.size]!) = (zerosL z n).toArray := by
  apply Array.ext'
  simp [zerosL, cellsL_eq]
  intro k _
  rw [getElem!_def]
  cases z.cells[k % z.cells.size]? <;> rfl

/-- A slice literal that is not empty. -/
theorem St.lit (h : St w0 S w H) {t e : TypeId} {len sz : Nat} {z : Value} {parts : Array (Nat × Value)} {cs : List Value} {k : Value → World → Prop}
    (hu : P.underlying t = some (.slice e)) (hs : (P.info? e).map (·.size) = some sz) (hz : (P.info? e).bind (·.zero) = some z) (hsmall : Nat.ble (len * sz) (2 ^ 24) = true) (hpos : Nat.beq (len * sz) 0 = false)
    (hf : fillK sz (zerosL z (len * sz)) parts.toList = some cs)
    (hk : ∀ b w', w0.heap.size ≤ b → St w0 S w' (H ++ [Ev.blk b e cs]) → k (.slice (some ⟨b, 0, none⟩) len len) w') : RunC P (Instr.buildSlice t len parts) w k := by
  obtain ⟨ie, h1, h2⟩ := Option.map_eq_some_iff.1 hs
  obtain ⟨ie', h3, h4⟩ := Option.bind_eq_some_iff.1 hz
  obtain rfl := Option.some.inj (h1.symm.trans h3)
  subst h2
  refine ⟨_, _, run_buildSlice w t e len parts cs.toArray ie z hu h1 h4 (by have := Nat.le_of_ble_eq_true hsmall; omega) (Nat.ne_of_beq_eq_false hpos) (by rw [zeros_eq]; exact fill_of _ _ _ hf), ?_⟩
  rw [alloc_eq]
  refine hk _ _ h.ext.size (h.made (Ext.push _ _ _ _) (blk_local _ _ _) (show (w.heap.push _)[w.heap.size]? = _ by rw [Array.getElem?_push, if_pos rfl]) ?_)
  intro b hb
  obtain rfl : b = w.heap.size := by simpa [Ev.blk] using hb
  simp [pushBlk]

theorem St.stAt (h : St w0 S w H) (i o' : Nat) {b o : Nat} {t : TypeId} {cs vs : List Value} {k : World → Prop} (hi : H[i]? = some (Ev.blk b t cs)) (ho : o = o') (hle : o' + vs.length ≤ cs.length) (h1 : vs.all isOne = true)
    (hk : ∀ w', St w0 S w' (H.set i (Ev.blk b t (over cs o' vs))) → k w') : StC w b o vs k := by
  subst ho
  exact h.st i hi hle h1 hk

/-- append of one known block of cells onto a slice of the call's own. -/
theorem St.app (h : St w0 S w H) (i j : Nat) {t e te : TypeId} {size bytes : Nat} {z v : Value} {n b m c : Nat} {xs news : List Value} {k : Value → World → Prop}
    (hu : P.underlying t = some (.slice e)) (hs : (P.info? e).map (fun i => (i.size, i.bytes)) = some (size, bytes)) (hz : (P.info? e).bind (·.zero) = some z) (hzs : Nat.beq z.cells.size size = true) (hsz : Nat.blt 0 size = true)
    (hi : H[i]? = some (own e size v n xs)) (hj : H[j]? = some (Ev.blk b te news)) (hl : Nat.beq news.length (m * size) = true) (h1 : news.all Value.oneCell' = true) (hm : Nat.blt 0 m = true)
    (h63 : n + m ≤ maxLen) (hbytes : (n + m) * bytes ≤ 140737488355328)
    (hk : ∀ g cap w', St w0 S w' (H.set i (own e size (.slice (some ⟨g, 0, none⟩) (n + m) cap) (n + m) (xs ++ news))) → k (.slice (some ⟨g, 0, none⟩) (n + m) cap) w') :
    RunC P (Builtin.append_ #[t, t] 0 #[v, .slice (some ⟨b, 0, none⟩) m c]) w k := by
  obtain ⟨ie, h1', h2⟩ := Option.map_eq_some_iff.1 hs
  obtain ⟨ie', h3, h4⟩ := Option.bind_eq_some_iff.1 hz
  obtain rfl := Option.some.inj (h1'.symm.trans h3)
  simp only [Prod.mk.injEq] at h2
  obtain ⟨v', w', hr, ho, hg, hnil, hb⟩ := run_append_own_at (P := P) w 0 t 0 e ie z size bytes hu h1' h4 h2.1 h2.2 (Nat.eq_of_beq_eq_true hzs) (by simpa [Nat.blt_eq] using hsz) v n xs (h.get i hi) ⟨b, 0, none⟩ m c news (Nat.eq_of_beq_eq_true hl)
    (fun q u hq => by rw [add_none, (h.blk j hj).cell]; simpa using hq) (by simpa using h1) h63 hbytes (Nat.zero_le _)
  have hm0 : 0 < m := by simpa [Nat.blt_eq] using hm
  have hform : ∃ g cap, v' = .slice (some ⟨g, 0, none⟩) (n + m) cap := by
    obtain ⟨_, ⟨_, h6⟩ | ⟨g, cap, cur, h6, _⟩⟩ := ho
    · omega
    · exact ⟨g, cap, h6⟩
  obtain ⟨g, cap, rfl⟩ := hform
  refine ⟨_, _, hr, hk g cap w' (h.upd i hi (Ext.of_grown hg) (fun q hq => by simp [own, hq]) (own_local _ _ _ _ _) ho ?_)⟩
  intro q hq
  obtain rfl : q = g := by simpa [own, Value.ownBlock] using hq
  rcases hb with hb | hb
  · left; simp only [own]; rw [← hb]; simp [Value.ownBlock]
  · right
    have : q = w.heap.size := by simpa [Value.ownBlock] using hb
    subst this
    refine ⟨Nat.le_refl _, ?_⟩
    obtain ⟨_, ⟨h6, _⟩ | ⟨g', cap', cur, h6, _, h7, _⟩⟩ := ho
    · cases h6
    · cases h6
      exact (Array.getElem?_eq_some_iff.1 h7).1
end
end Go.Proofs.YtakdekkieobbaaaDoor.Ev
