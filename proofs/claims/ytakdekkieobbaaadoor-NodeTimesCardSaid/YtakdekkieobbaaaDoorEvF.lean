
/-
  What is known of memory, block by block, while a function runs; the steps of the evaluator over it.
-/
import Derived.Test.YtakdekkieobbaaaDoorEvE
namespace Go.Proofs.YtakdekkieobbaaaDoor.Ev
open Go

/-- From w to w' only blocks of S and new ones have turned. -/
structure Ext (S : Nat → Prop) (w w' : World) : Prop where
  os : w'.os = w.os
  tape : w'.tape = w.tape
  output : w'.output = w.output
  size : w.heap.size ≤ w'.heap.size
  block : ∀ k, k < w.heap.size → ¬ S k → w'.heap[k]? = w.heap[k]?

abbrev No : Nat → Prop := fun _ => False

section
variable {S T : Nat → Prop} {w w' w'' : World}
theorem Ext.refl (S : Nat → Prop) (w : World) : Ext S w w := ⟨rfl, rfl, rfl, Nat.le_refl _, fun _ _ _ => rfl⟩
theorem Ext.trans (h : Ext S w w') (k : Ext S w' w'') : Ext S w w'' :=
  ⟨k.os.trans h.os, k.tape.trans h.tape, k.output.trans h.output, Nat.le_trans h.size k.size, fun i hi hs => (k.block i (Nat.lt_of_lt_of_le hi h.size) hs).trans (h.block i hi hs)⟩
/-- What the second step may turn is S's, or was made by the first. -/
theorem Ext.then (h : Ext S w w') (k : Ext T w' w'') (hT : ∀ b, T b → S b ∨ w.heap.size ≤ b) : Ext S w w'' :=
  ⟨k.os.trans h.os, k.tape.trans h.tape, k.output.trans h.output, Nat.le_trans h.size k.size, fun i hi hs => (k.block i (Nat.lt_of_lt_of_le hi h.size) (fun ht => by
    rcases hT i ht with h1 | h1
    · exact hs h1
    · omega)).trans (h.block i hi hs)⟩
theorem Ext.mono (h : Ext S w w') (hT : ∀ b, S b → T b) : Ext T w w' := ⟨h.os, h.tape, h.output, h.size, fun i hi hs => h.block i hi fun hk => hs (hT i hk)⟩
theorem Ext.of_no (h : Ext No w w') : Ext S w w' := h.mono fun _ h => h.elim
theorem Ext.drawn (S : Nat → Prop) (w : World) (n : Nat) : Ext S w { w with drawn := n } := ⟨rfl, rfl, rfl, Nat.le_refl _, fun _ _ _ => rfl⟩
theorem Ext.push (S : Nat → Prop) (w : World) (t : TypeId) (cs : List Value) : Ext S w (pushBlk w t cs) :=
  ⟨rfl, rfl, rfl, by simp [pushBlk], fun i hi _ => by
    show (w.heap.push _)[i]? = _
    rw [Array.getElem?_push, if_neg (by omega)]⟩
theorem Ext.set {b : Nat} (hb : S b) (t : TypeId) (cs : List Value) : Ext S w (setBlk w b t cs) :=
  ⟨rfl, rfl, rfl, by simp [setBlk], fun i hi hs => by
    have : b ≠ i := fun e => hs (e ▸ hb)
    simp [setBlk, this]⟩
theorem Ext.blk {b : Nat} {t : TypeId} {cs : List Value} (h : Ext S w w') (hb : Blk w b t cs) (hs : ¬ S b) : Blk w' b t cs := (h.block b hb.lt hs).trans hb
theorem cell_lt {a : Addr} {v : Value} (h : w.cell? a = some v) : a.block < w.heap.size := by
  unfold World.cell? at h
  split at h
  · rename_i he; exact (Array.getElem?_eq_some_iff.1 he).1
  · cases h
theorem Ext.cell {b o : Nat} {v : Value} (h : Ext S w w') (hc : w.cell? ⟨b, o, none⟩ = some v) (hs : ¬ S b) : w'.cell? ⟨b, o, none⟩ = some v := by
  have := h.block b (cell_lt hc) hs
  rw [← hc]
  simp [World.cell?, this]
theorem Ext.cells {b o : Nat} {l : List Value} (h : Ext S w w') (hc : CellsAt w b o l) (hs : ¬ S b) : CellsAt w' b o l := fun i v hi => h.cell (hc i v hi) hs
theorem Blk.ne {b b' : Nat} {t t' : TypeId} {cs cs' : List Value} (h : Blk w b t cs) (h' : Blk w b' t' cs') (ht : t ≠ t') : b ≠ b' := by
  rintro rfl
  unfold Blk at h h'
  rw [h] at h'
  injection h' with h'
  injection h' with _ h'
  exact ht h'
theorem Blk.inj {b : Nat} {t t' : TypeId} {cs cs' : List Value} (h : Blk w b t cs) (h' : Blk w b t' cs') : t = t' ∧ cs = cs' := by
  unfold Blk at h h'
  rw [h] at h'
  injection h' with h'
  injection h' with h1 h2 _
  exact ⟨h2, by simpa using h1⟩
theorem Blk.cells {b : Nat} {t : TypeId} {cs : List Value} (h : Blk w b t cs) {o : Nat} {l : List Value} (hl : (cs.drop o).take l.length = l) : CellsAt w b o l := fun i v hi => by
  rw [h.cell]
  have hlt := (List.getElem?_eq_some_iff.1 hi).1
  rw [← hl] at hi
  rw [List.getElem?_take_of_lt hlt, List.getElem?_drop] at hi
  exact hi
end

/-- A piece of knowledge on some blocks. -/
structure Ent where
  foot : List Nat
  holds : World → Prop

def Ent.Local (e : Ent) : Prop := ∀ w w' : World, (∀ b ∈ e.foot, w'.heap[b]? = w.heap[b]?) → e.holds w → e.holds w'

def blk (b : Nat) (t : TypeId) (cs : List Value) : Ent := ⟨[b], fun w => Blk w b t cs⟩
theorem blk_local (b : Nat) (t : TypeId) (cs : List Value) : (blk b t cs).Local := fun _ _ h hb => (h b (by simp [blk])).trans hb

structure St (w0 : World) (S : Nat → Prop) (w : World) (H : List Ent) : Prop where
  ext : Ext S w0 w
  each : ∀ e ∈ H, e.holds w
  loc : ∀ e ∈ H, e.Local
  may : ∀ e ∈ H, ∀ b ∈ e.foot, (S b ∨ w0.heap.size ≤ b) ∧ b < w.heap.size
  apart : H.Pairwise fun e f => ∀ b ∈ e.foot, b ∉ f.foot

section
variable {w0 w w' : World} {S T : Nat → Prop} {H : List Ent}

theorem St.start (w0 : World) (S : Nat → Prop) : St w0 S w0 [] := ⟨Ext.refl _ _, by simp, by simp, by simp, .nil⟩

theorem St.get (h : St w0 S w H) (i : Nat) {e : Ent} (hi : H[i]? = some e) : e.holds w := h.each e (List.mem_of_getElem? hi)
theorem St.blk (h : St w0 S w H) (i : Nat) {b : Nat} {t : TypeId} {cs : List Value} (hi : H[i]? = some (blk b t cs)) : Blk w b t cs := h.get i hi

/-- One thing more: its blocks may be turned, and are none of the others'. -/
theorem St.add (h : St w0 S w H) {e : Ent} (hl : e.Local) (hh : e.holds w) (hm : ∀ b ∈ e.foot, (S b ∨ w0.heap.size ≤ b) ∧ b < w.heap.size) (ha : ∀ f ∈ H, ∀ b ∈ f.foot, b ∉ e.foot) : St w0 S w (H ++ [e]) := by
  refine ⟨h.ext, ?_, ?_, ?_, ?_⟩
  · intro f hf
    rcases List.mem_append.1 hf with hf | hf
    · exact h.each f hf
    · obtain rfl : f = e := by simpa using hf
      exact hh
  · intro f hf
    rcases List.mem_append.1 hf with hf | hf
    · exact h.loc f hf
    · obtain rfl : f = e := by simpa using hf
      exact hl
  · intro f hf
    rcases List.mem_append.1 hf with hf | hf
    · exact h.may f hf
    · obtain rfl : f = e := by simpa using hf
      exact hm
  · rw [List.pairwise_append]
    refine ⟨h.apart, by simp, fun f hf g hg => ?_⟩
    obtain rfl : g = e := by simpa using hg
    exact ha f hf

/-- A step that turns none of what is known. -/
theorem St.same (h : St w0 S w H) (k : Ext T w w') (hT : ∀ b, T b → S b ∨ w0.heap.size ≤ b) (hn : ∀ e ∈ H, ∀ b ∈ e.foot, ¬ T b) : St w0 S w' H :=
  ⟨h.ext.then k hT, fun e he => h.loc e he w w' (fun b hb => k.block b (h.may e he b hb).2 (hn e he b hb)) (h.each e he), h.loc, fun e he b hb => ⟨(h.may e he b hb).1, Nat.lt_of_lt_of_le (h.may e he b hb).2 k.size⟩, h.apart⟩
theorem St.no (h : St w0 S w H) (k : Ext No w w') : St w0 S w' H := h.same k (fun _ h => h.elim) fun _ _ _ _ h => h

theorem pairwise_set {α : Type} {R : α → α → Prop} (hsymm : ∀ a b, R a b → R b a) : ∀ {l : List α} {i : Nat} {e : α}, l.Pairwise R → (∀ j f, l[j]? = some f → j ≠ i → R f e) → (l.set i e).Pairwise R
  | [], _, _, _, _ => by simp
  | x :: l, 0, e, h, hf => by
    rw [List.set_cons_zero]
    refine .cons (fun y hy => ?_) (List.Pairwise.of_cons h)
    obtain ⟨j, hj, rfl⟩ := List.mem_iff_getElem.1 hy
    exact hsymm _ _ (hf (j + 1) _ (by simp [hj]) (by omega))
  | x :: l, i + 1, e, h, hf => by
    rw [List.set_cons_succ]
    obtain ⟨h1, h2⟩ := List.pairwise_cons.1 h
    refine .cons (fun y hy => ?_) (pairwise_set hsymm h2 fun j f hj hne => hf (j + 1) f (by simpa using hj) (by omega))
    rcases List.mem_or_eq_of_mem_set hy with hy | rfl
    · exact h1 y hy
    · exact hf 0 x (by simp) (by omega)

theorem pairwise_at {α : Type} {R : α → α → Prop} (hsymm : ∀ a b, R a b → R b a) {l : List α} (h : l.Pairwise R) {i j : Nat} {a b : α} (hi : l[i]? = some a) (hj : l[j]? = some b) (hne : i ≠ j) : R a b := by
  rw [List.pairwise_iff_getElem] at h
  obtain ⟨hi1, rfl⟩ := List.getElem?_eq_some_iff.1 hi
  obtain ⟨hj1, rfl⟩ := List.getElem?_eq_some_iff.1 hj
  rcases Nat.lt_or_gt_of_ne hne with hlt | hlt
  · exact h i j hi1 hj1 hlt
  · exact hsymm _ _ (h j i hj1 hi1 hlt)

theorem apart_symm : ∀ e f : Ent, (∀ b ∈ e.foot, b ∉ f.foot) → ∀ b ∈ f.foot, b ∉ e.foot := fun _ _ h b hb hb' => h b hb' hb

/-- A step that turns number i alone (and may make new blocks, which number i may hold from then on). -/
theorem St.upd (h : St w0 S w H) (i : Nat) {e e' : Ent} (hi : H[i]? = some e) (k : Ext T w w') (hT : ∀ b, T b → b ∈ e.foot) (hl : e'.Local) (hh : e'.holds w') (hf : ∀ b ∈ e'.foot, b ∈ e.foot ∨ (w.heap.size ≤ b ∧ b < w'.heap.size)) : St w0 S w' (H.set i e') := by
  have hme : e ∈ H := List.mem_of_getElem? hi
  have hTS : ∀ b, T b → S b ∨ w0.heap.size ≤ b := fun b hb => (h.may e hme b (hT b hb)).1
  have other : ∀ j f, H[j]? = some f → j ≠ i → ∀ b ∈ f.foot, b ∉ e.foot := fun j f hj hne => pairwise_at apart_symm h.apart hj hi hne
  have hcase : ∀ f ∈ H.set i e', f = e' ∨ ∃ j, H[j]? = some f ∧ j ≠ i := by
    intro f hf
    obtain ⟨j, hj⟩ := List.mem_iff_getElem?.1 hf
    rw [List.getElem?_set] at hj
    split at hj
    · split at hj
      · exact .inl (by simpa using hj.symm)
      · cases hj
    · rename_i hne; exact .inr ⟨j, hj, fun e => hne e.symm⟩
  refine ⟨h.ext.then k hTS, ?_, ?_, ?_, ?_⟩
  · intro f hf
    rcases hcase f hf with rfl | ⟨j, hj, hne⟩
    · exact hh
    · have hm := List.mem_of_getElem? hj
      exact h.loc f hm w w' (fun b hb => k.block b (h.may f hm b hb).2 fun ht => other j f hj hne b hb (hT b ht)) (h.each f hm)
  · intro f hf
    rcases hcase f hf with rfl | ⟨j, hj, hne⟩
    · exact hl
    · exact h.loc f (List.mem_of_getElem? hj)
  · intro f hf' b hb
    rcases hcase f hf' with rfl | ⟨j, hj, hne⟩
    · rcases hf b hb with h1 | ⟨h1, h2⟩
      · exact ⟨(h.may e hme b h1).1, Nat.lt_of_lt_of_le (h.may e hme b h1).2 k.size⟩
      · exact ⟨.inr (Nat.le_trans h.ext.size h1), h2⟩
    · have hm := List.mem_of_getElem? hj
      exact ⟨(h.may f hm b hb).1, Nat.lt_of_lt_of_le (h.may f hm b hb).2 k.size⟩
  · refine pairwise_set apart_symm h.apart fun j f hj hne b hb hb' => ?_
    rcases hf b hb' with h1 | ⟨h1, _⟩
    · exact other j f hj hne b hb h1
    · have := (h.may f (List.mem_of_getElem? hj) b hb).2
      omega

/-- A step that turns nothing that is known and makes a new thing. -/
theorem St.made (h : St w0 S w H) {e : Ent} (k : Ext No w w') (hl : e.Local) (hh : e.holds w') (hf : ∀ b ∈ e.foot, w.heap.size ≤ b ∧ b < w'.heap.size) : St w0 S w' (H ++ [e]) := by
  refine (h.no k).add hl hh (fun b hb => ⟨.inr (Nat.le_trans h.ext.size (hf b hb).1), (hf b hb).2⟩) fun f hf' b hb hb' => ?_
  have h1 := (h.may f hf' b hb).2
  have h2 := (hf b hb').1
  omega

theorem St.weaken (h : St w0 S w H) {H' : List Ent} (hs : H'.Sublist H) : St w0 S w H' :=
  ⟨h.ext, fun e he => h.each e (hs.subset he), fun e he => h.loc e (hs.subset he), fun e he => h.may e (hs.subset he), h.apart.sublist hs⟩

/-! ### Steps -/
theorem St.ld (h : St w0 S w H) (i : Nat) {b o : Nat} {t : TypeId} {cs : List Value} {v : Value} {k : Value → Prop} (hi : H[i]? = some (Ev.blk b t cs)) (hv : cs[o]? = some v) (hk : k v) : LdC w b o k :=
  ⟨v, by rw [(h.blk i hi).cell]; exact hv, hk⟩
theorem St.la (h : St w0 S w H) (i : Nat) {b o n : Nat} {t : TypeId} {cs l : List Value} {k : Value → Prop} (hi : H[i]? = some (Ev.blk b t cs)) (hn : l.length = n) (hl : (cs.drop o).take l.length = l) (hk : k (.agg l.toArray)) : LdA w b o n k :=
  ⟨l, hn, (h.blk i hi).cells hl, hk⟩
/-- A cell that was there when the function began, and is none of S's. -/
theorem St.ldr (h : St w0 S w H) {b o : Nat} {v : Value} {k : Value → Prop} (hc : w0.cell? ⟨b, o, none⟩ = some v) (hs : ¬ S b) (hk : k v) : LdC w b o k := ⟨v, h.ext.cell hc hs, hk⟩
theorem St.lar (h : St w0 S w H) {b o n : Nat} {l : List Value} {k : Value → Prop} (hn : l.length = n) (hc : CellsAt w0 b o l) (hs : ¬ S b) (hk : k (.agg l.toArray)) : LdA w b o n k := ⟨l, hn, h.ext.cells hc hs, hk⟩
theorem St.st (h : St w0 S w H) (i : Nat) {b o : Nat} {t : TypeId} {cs vs : List Value} {k : World → Prop} (hi : H[i]? = some (Ev.blk b t cs)) (hle : o + vs.length ≤ cs.length) (h1 : vs.all isOne = true)
    (hk : ∀ w', St w0 S w' (H.set i (Ev.blk b t (over cs o vs))) → k w') : StC w b o vs k := by
  have hb := h.blk i hi
  refine ⟨t, cs, hb, hle, by simpa using h1, hk _ ?_⟩
  exact h.upd i hi (T := (· = b)) (Ext.set (S := (· = b)) (b := b) rfl t _) (fun c hc => by simp [Ev.blk, hc]) (blk_local _ _ _) (setBlk_blk hb.lt) (fun c hc => .inl hc)
theorem St.new (h : St w0 S w H) {t : TypeId} {cs : List Value} {k : Value → World → Prop} (hk : ∀ b w', w0.heap.size ≤ b → St w0 S w' (H ++ [Ev.blk b t cs]) → k (.pointer (some ⟨b, 0, none⟩)) w') : NewC w t cs k := by
  refine ⟨hk _ _ h.ext.size (h.made (Ext.push _ _ _ _) (blk_local _ _ _) (show (w.heap.push _)[w.heap.size]? = _ by rw [Array.getElem?_push, if_pos rfl]) ?_)⟩
  intro b hb
  obtain rfl : b = w.heap.size := by simpa [Ev.blk] using hb
  simp [pushBlk]
theorem St.drew (h : St w0 S w H) : St w0 S { w with drawn := w.drawn + 1 } H := h.no (Ext.drawn _ _ _)

/-! ### Steps in a region that draws its order: what is loaded lies in blocks that the region leaves alone (T: those that it turns) -/
theorem St.ldF (h : St w0 S w H) (i : Nat) {b o : Nat} {t : TypeId} {cs : List Value} {v : Value} {k : Value → Prop} (hi : H[i]? = some (Ev.blk b t cs)) (hv : cs[o]? = some v) (hT : ¬ T b) (hk : k v) : LdF (Ext T w) b o k :=
  ⟨v, fun w' hw' => by rw [(hw'.blk (h.blk i hi) hT).cell]; exact hv, hk⟩
theorem St.laF (h : St w0 S w H) (i : Nat) {b o n : Nat} {t : TypeId} {cs l : List Value} {k : Value → Prop} (hi : H[i]? = some (Ev.blk b t cs)) (hn : l.length = n) (hl : (cs.drop o).take l.length = l) (hT : ¬ T b) (hk : k (.agg l.toArray)) : LdG (Ext T w) b o n k :=
  ⟨l, hn, fun w' hw' => (hw'.blk (h.blk i hi) hT).cells hl, hk⟩
theorem St.ldrF (h : St w0 S w H) {b o : Nat} {v : Value} {k : Value → Prop} (hc : w0.cell? ⟨b, o, none⟩ = some v) (hs : ¬ S b) (hT : ¬ T b) (hk : k v) : LdF (Ext T w) b o k := ⟨v, fun w' hw' => hw'.cell (h.ext.cell hc hs) hT, hk⟩
theorem St.larF (h : St w0 S w H) {b o n : Nat} {l : List Value} {k : Value → Prop} (hn : l.length = n) (hc : CellsAt w0 b o l) (hs : ¬ S b) (hT : ¬ T b) (hk : k (.agg l.toArray)) : LdG (Ext T w) b o n k := ⟨l, hn, fun w' hw' => hw'.cells (h.ext.cells hc hs) hT, hk⟩
end

theorem Blk.to {w : World} {b : Nat} {t : TypeId} {cs cs' : List Value} (h : Blk w b t cs) (e : cs = cs') : Blk w b t cs' := e ▸ h
/-- A region that draws its order, T the blocks that it may turn. -/
theorem drawS {P : Program} {τ : Tab} {N : Nat} {σ : Slots} {w : World} (hτ : TabOk P τ) (hm : P.follows .mixedOrders = true) {ops : Array Oper} {Q : Slots → World → Prop} (late : List Nat) (T : Nat → Prop) (order : List Nat)
    (hok : (Region.noSelect ops && Nat.beq order.length ops.size && orderOk ops late order (Array.replicate ops.size false)) = true)
    (h : ∀ w1, w1 = { w with drawn := w.drawn + 1 } → evDrawR P τ N ops late (Ext T w1) order Q σ w1) : DrawC P τ N ops Q σ w :=
  drawR hτ hm late (fun w1 w' => Ext T w1 w') order hok (Ext.refl _ _) (by have := h _ rfl; rwa [evDrawR_eq] at this)
/-- The same, its length looked at first (where it is one order of several that is tried). -/
theorem drawL {P : Program} {τ : Tab} {N : Nat} {σ : Slots} {w : World} (hτ : TabOk P τ) (hm : P.follows .mixedOrders = true) {ops : Array Oper} {Q : Slots → World → Prop} (late : List Nat) (T : Nat → Prop) (order : List Nat) (_ : order.length = ops.size)
    (hok : (Region.noSelect ops && Nat.beq order.length ops.size && orderOk ops late order (Array.replicate ops.size false)) = true)
    (h : ∀ w1, w1 = { w with drawn := w.drawn + 1 } → evDrawR P τ N ops late (Ext T w1) order Q σ w1) : DrawC P τ N ops Q σ w := drawS hτ hm late T order hok h
end Go.Proofs.YtakdekkieobbaaaDoor.Ev
