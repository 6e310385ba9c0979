
/-
  Things that a call owns, chosen anew; what a call makes of the things that it is given.
-/
import Derived.Test.YtakdekkieobbaaaDoorEvM
import Derived.Test.YtakdekkieobbaaaDoorLawA
namespace Go.Proofs.YtakdekkieobbaaaDoor.Ev
open Go Go.WideShapes

theorem apart_symm' : ∀ a b : Ent, (∀ x ∈ a.foot, x ∉ b.foot) → ∀ x ∈ b.foot, x ∉ a.foot := fun _ _ h x hx hy => h x hy hx

section
variable {w0 w w' w'' : World} {S T : Nat → Prop} {H H' H'' A B : List Ent}

/-- Some of the things, in another order. -/
theorem St.sel (h : St w0 S w H) (is : List Nat) (hn : is.Nodup) : St w0 S w (is.filterMap fun i => H[i]?) := by
  have mem : ∀ e ∈ is.filterMap (fun i => H[i]?), e ∈ H := fun e he => by
    obtain ⟨i, _, hi⟩ := List.mem_filterMap.1 he
    exact List.mem_of_getElem? hi
  refine ⟨h.ext, fun e he => h.each e (mem e he), fun e he => h.loc e (mem e he), fun e he => h.may e (mem e he), ?_⟩
  rw [List.pairwise_filterMap]
  refine List.Pairwise.imp ?_ hn
  intro i j hij e he f hf
  exact pairwise_at apart_symm' h.apart he hf hij

theorem St.apartAt (h : St w0 S w H) (i j : Nat) {e f : Ent} (hi : H[i]? = some e) (hj : H[j]? = some f) (hne : i ≠ j) (b : Nat) (hb : b ∈ e.foot) : b ∉ f.foot := pairwise_at apart_symm' h.apart hi hj hne b hb
theorem St.ne (h : St w0 S w H) (i j : Nat) {b c : Nat} {t u : TypeId} {cs ds : List Value} (hi : H[i]? = some (Ev.blk b t cs)) (hj : H[j]? = some (Ev.blk c u ds)) (hne : i ≠ j) : b ≠ c := by
  have := pairwise_at apart_symm' h.apart hi hj hne b (by simp [Ev.blk])
  simpa [Ev.blk] using this

/-- Some cells of a known block, as they stand. -/
theorem St.laX (h : St w0 S w H) (i : Nat) {b o n : Nat} {t : TypeId} {cs : List Value} {k : Value → Prop} (hi : H[i]? = some (Ev.blk b t cs)) (hn : Nat.ble (o + n) cs.length = true) (hk : k (.agg ((cs.drop o).take n).toArray)) : LdA w b o n k := by
  have hle := Nat.le_of_ble_eq_true hn
  have hl : ((cs.drop o).take n).length = n := by rw [List.length_take, List.length_drop]; omega
  exact h.la i hi hl (by rw [hl]) hk

theorem St.laXF (h : St w0 S w H) (i : Nat) {b o n : Nat} {t : TypeId} {cs : List Value} {k : Value → Prop} (hi : H[i]? = some (Ev.blk b t cs)) (hn : Nat.ble (o + n) cs.length = true) (hT : ¬ T b) (hk : k (.agg ((cs.drop o).take n).toArray)) : LdG (Ext T w) b o n k := by
  have hle := Nat.le_of_ble_eq_true hn
  have hl : ((cs.drop o).take n).length = n := by rw [List.length_take, List.length_drop]; omega
  exact h.laF i hi hl (by rw [hl]) hT hk

/-- Things that stand in a world, apart from each other. -/
structure Has (w : World) (H : List Ent) : Prop where
  each : ∀ e ∈ H, e.holds w
  loc : ∀ e ∈ H, e.Local
  lt : ∀ e ∈ H, ∀ b ∈ e.foot, b < w.heap.size
  apart : H.Pairwise fun e f => ∀ b ∈ e.foot, b ∉ f.foot

abbrev inF (H : List Ent) : Nat → Prop := fun b => ∃ e ∈ H, b ∈ e.foot

/-- What a call makes of H. -/
structure Turns (w w' : World) (H H' : List Ent) : Prop where
  ext : Ext (inF H) w w'
  has : Has w' H'
  foot : ∀ e ∈ H', ∀ b ∈ e.foot, inF H b ∨ w.heap.size ≤ b

theorem St.has (h : St w0 S w H) : Has w H := ⟨h.each, h.loc, fun e he b hb => (h.may e he b hb).2, h.apart⟩
theorem Has.get (h : Has w H) (i : Nat) {e : Ent} (hi : H[i]? = some e) : e.holds w := h.each e (List.mem_of_getElem? hi)
theorem Has.blk (h : Has w H) (i : Nat) {b : Nat} {t : TypeId} {cs : List Value} (hi : H[i]? = some (blk b t cs)) : Blk w b t cs := h.get i hi
theorem Has.start (h : Has w H) : St w (inF H) w H := ⟨Ext.refl _ _, h.each, h.loc, fun e he b hb => ⟨.inl ⟨e, he, hb⟩, h.lt e he b hb⟩, h.apart⟩
/-- Nothing of it is turned. -/
theorem Has.read (h : Has w H) (hx : Ext No w w') : Has w' H :=
  ⟨fun e he => h.loc e he w w' (fun b hb => hx.block b (h.lt e he b hb) id) (h.each e he), h.loc, fun e he b hb => Nat.lt_of_lt_of_le (h.lt e he b hb) hx.size, h.apart⟩
theorem Has.keep (h : Has w H) (hx : Ext T w w') (hT : ∀ e ∈ H, ∀ b ∈ e.foot, ¬ T b) : Has w' H :=
  ⟨fun e he => h.loc e he w w' (fun b hb => hx.block b (h.lt e he b hb) (hT e he b hb)) (h.each e he), h.loc, fun e he b hb => Nat.lt_of_lt_of_le (h.lt e he b hb) hx.size, h.apart⟩
theorem Has.sub (h : Has w H) (hs : H'.Sublist H) : Has w H' := ⟨fun e he => h.each e (hs.subset he), fun e he => h.loc e (hs.subset he), fun e he => h.lt e (hs.subset he), h.apart.sublist hs⟩
theorem Has.sel (h : Has w H) (is : List Nat) (hn : is.Nodup) : Has w (is.filterMap fun i => H[i]?) := (h.start.sel is hn).has
theorem St.turns (h : St w (inF H) w' H') : Turns w w' H H' := ⟨h.ext, h.has, fun e he b hb => (h.may e he b hb).1⟩
theorem Turns.refl (h : Has w H) : Turns w w H H := ⟨Ext.refl _ _, h, fun e he b hb => .inl ⟨e, he, hb⟩⟩
theorem Turns.of_no (h : Has w H) (hx : Ext No w w') : Turns w w' H H := ⟨hx.mono fun _ h => h.elim, h.read hx, fun e he b hb => .inl ⟨e, he, hb⟩⟩
theorem Turns.trans (h : Turns w w' H H') (k : Turns w' w'' H' H'') : Turns w w'' H H'' := by
  refine ⟨h.ext.then k.ext fun b hb => ?_, k.has, fun e he b hb => ?_⟩
  · obtain ⟨e, he, hb⟩ := hb
    exact h.foot e he b hb
  · rcases k.foot e he b hb with ⟨f, hf, hb⟩ | hb
    · exact h.foot f hf b hb
    · exact .inr (Nat.le_trans h.ext.size hb)

theorem inF_app {b : Nat} : inF (A ++ B) b ↔ inF A b ∨ inF B b := by
  constructor
  · rintro ⟨e, he, hb⟩
    rcases List.mem_append.1 he with he | he
    · exact .inl ⟨e, he, hb⟩
    · exact .inr ⟨e, he, hb⟩
  · rintro (⟨e, he, hb⟩ | ⟨e, he, hb⟩)
    · exact ⟨e, List.mem_append_left _ he, hb⟩
    · exact ⟨e, List.mem_append_right _ he, hb⟩

/-- A call that was given a part of what is known. -/
theorem St.call (h : St w0 S w (H ++ B)) (k : Turns w w' H H') : St w0 S w' (H' ++ B) := by
  have hap := List.pairwise_append.1 h.apart
  have hB : ∀ e ∈ B, ∀ b ∈ e.foot, ¬ inF H b := fun e he b hb ⟨f, hf, hb'⟩ => hap.2.2 f hf e he b hb' hb
  have hmB : ∀ e ∈ B, e ∈ H ++ B := fun e he => List.mem_append_right _ he
  refine ⟨h.ext.then k.ext fun b ⟨e, he, hb⟩ => (h.may e (List.mem_append_left _ he) b hb).1, ?_, ?_, ?_, ?_⟩
  · intro e he
    rcases List.mem_append.1 he with he | he
    · exact k.has.each e he
    · exact h.loc e (hmB e he) w w' (fun b hb => k.ext.block b (h.may e (hmB e he) b hb).2 (hB e he b hb)) (h.each e (hmB e he))
  · intro e he
    rcases List.mem_append.1 he with he | he
    · exact k.has.loc e he
    · exact h.loc e (hmB e he)
  · intro e he b hb
    rcases List.mem_append.1 he with he | he
    · refine ⟨?_, k.has.lt e he b hb⟩
      rcases k.foot e he b hb with ⟨f, hf, hb'⟩ | hb'
      · exact (h.may f (List.mem_append_left _ hf) b hb').1
      · exact .inr (Nat.le_trans h.ext.size hb')
    · exact ⟨(h.may e (hmB e he) b hb).1, Nat.lt_of_lt_of_le (h.may e (hmB e he) b hb).2 k.ext.size⟩
  · rw [List.pairwise_append]
    refine ⟨k.has.apart, hap.2.1, fun f hf e he b hb hb' => ?_⟩
    rcases k.foot f hf b hb with hb'' | hb''
    · exact hB e he b hb' hb''
    · have := (h.may e (hmB e he) b hb').2
      omega
/-- The same where the part stands in the midst. -/
theorem St.callAt (h : St w0 S w (A ++ (H ++ B))) (k : Turns w w' H H') : St w0 S w' (A ++ (H' ++ B)) := by
  have p1 : (A ++ (H ++ B)).Perm (H ++ (A ++ B)) := by
    rw [← List.append_assoc, ← List.append_assoc]
    exact List.Perm.append_right _ List.perm_append_comm
  have p2 : (H' ++ (A ++ B)).Perm (A ++ (H' ++ B)) := by
    rw [← List.append_assoc, ← List.append_assoc]
    exact List.Perm.append_right _ List.perm_append_comm
  have perm : ∀ {w : World} {X Y : List Ent}, X.Perm Y → St w0 S w X → St w0 S w Y := fun {w X Y} p h =>
    ⟨h.ext, fun e he => h.each e (p.mem_iff.2 he), fun e he => h.loc e (p.mem_iff.2 he), fun e he => h.may e (p.mem_iff.2 he), (p.pairwise_iff (fun {a b} h => apart_symm' a b h)).1 h.apart⟩
  exact perm p2 ((perm p1 h).call k)
theorem Has.left (h : Has w (A ++ B)) : Has w A := h.sub (List.sublist_append_left _ _)
theorem Has.right (h : Has w (A ++ B)) : Has w B := h.sub (List.sublist_append_right _ _)
/-! ### What is new -/
def Fresh (w w' : World) (v : Value) : Prop := ∀ g, v.ownBlock = some g → w.heap.size ≤ g ∧ g < w'.heap.size
theorem St.freshAt {w0 w : World} {H : List Ent} (h : St w0 No w H) (i : Nat) {α : Type} {e : TypeId} {sz : Nat} {enc : α → List Value} {v : Value} {xs : List α} (hi : H[i]? = some (ownL e sz enc v xs)) : Fresh w0 w v := fun g hg => by
  rcases h.may _ (List.mem_of_getElem? hi) g (by simpa [ownL, own] using hg) with ⟨h1 | h1, h2⟩
  · exact h1.elim
  · exact ⟨h1, h2⟩
/-- It joins what is known. -/
theorem St.madeL {w0 w w' : World} {S : Nat → Prop} {H : List Ent} (h : St w0 S w H) (hx : Ext No w w') {α : Type} {e : TypeId} {sz : Nat} {enc : α → List Value} {v : Value} {xs : List α} (ho : (ownL e sz enc v xs).holds w') (hf : Fresh w w' v) : St w0 S w' (H ++ [ownL e sz enc v xs]) :=
  h.made hx (own_local _ _ _ _ _) ho fun g hg => hf g (by simpa [ownL, own] using hg)
theorem ownL_off {α : Type} {e : TypeId} {sz : Nat} {enc : α → List Value} {b o n c : Nat} {xs : List α} (h : (ownL e sz enc (.slice (some ⟨b, o, none⟩) n c) xs).holds w) : o = 0 := by
  obtain ⟨_, ⟨h, _⟩ | ⟨g, cap, cur, h, _⟩⟩ := h
  · simp at h
  · simp only [Value.slice.injEq, Option.some.injEq, Addr.mk.injEq] at h
    exact h.1.2.1
/-- A read-only slice. -/
def slcE {α : Type} (sz : Nat) (enc : α → List Value) (v : Value) (xs : List α) : Ent :=
  ⟨if xs = [] then [] else v.ownBlock.toList, fun w => ∃ a c, v = .slice a xs.length c ∧ Slc w sz enc (fun _ => True) a xs.length xs⟩
end
theorem arg_str {P : Program} {W : World} {t : TypeId} {v : Value} (hu : P.underlying t = some .string) (h : ArgOk P W t v) : ∃ s : ByteArray, v = .string s := by
  obtain ⟨⟨base, h1⟩, h2⟩ := h
  obtain ⟨s, rfl⟩ := okWide_string hu h1
  exact ⟨s, rfl⟩
end Go.Proofs.YtakdekkieobbaaaDoor.Ev
