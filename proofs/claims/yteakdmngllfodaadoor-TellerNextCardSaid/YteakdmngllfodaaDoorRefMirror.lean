
/-
  The reference's mirror, walked: it does what package mirror does.
-/
import Derived.Test.YteakdmngllfodaaDoorMirrored
namespace Go.Proofs.YteakdmngllfodaaDoor
open Go Ev

theorem Ev.ldc {w : World} {b o : Nat} {v : Value} {k : Value → Prop} (hc : w.cell? ⟨b, o, none⟩ = some v) (hk : k v) : LdC w b o k := ⟨v, hc, hk⟩
theorem Ev.lac {w : World} {b o n : Nat} {l : List Value} {k : Value → Prop} (hn : l.length = n) (hc : CellsAt w b o l) (hk : k (.agg l.toArray)) : LdA w b o n k := ⟨l, hn, hc, hk⟩
theorem Ev.ldFc {w : World} {T : Nat → Prop} {b o : Nat} {v : Value} {k : Value → Prop} (hc : w.cell? ⟨b, o, none⟩ = some v) (hT : ¬ T b) (hk : k v) : LdF (Ext T w) b o k := ⟨v, fun _ hw => hw.cell hc hT, hk⟩
theorem Ev.laFc {w : World} {T : Nat → Prop} {b o n : Nat} {l : List Value} {k : Value → Prop} (hn : l.length = n) (hc : CellsAt w b o l) (hT : ¬ T b) (hk : k (.agg l.toArray)) : LdG (Ext T w) b o n k := ⟨l, hn, fun _ hw => hw.cells hc hT, hk⟩

/-- A store into a slice of the call's own; what it turns. -/
theorem Ev.St.ownX {w0 w : World} {S : Nat → Prop} {H : List Ent} (h : St w0 S w H) (i : Nat) {e : TypeId} {size n o b : Nat} {n' c : Nat} {xs vs : List Value} {k : World → Prop} (hi : H[i]? = some (own e size (.slice (some ⟨b, 0, none⟩) n' c) n xs)) (hle : o + vs.length ≤ xs.length) (h1 : vs.all isOne = true)
    (hk : ∀ w', Ext (· = b) w w' → St w0 S w' (H.set i (own e size (.slice (some ⟨b, 0, none⟩) n' c) n (over xs o vs))) → k w') : StC w b o vs k := by
  obtain ⟨t, cs, hb, hl, ho, _⟩ := (h.ownSt i hi hle h1 (k := fun _ => True) fun _ _ => trivial).ex
  have h2 := h.ownSt i hi hle h1 (k := fun w' => Ext (· = b) w w' → k w') fun w' hS hx => hk w' hx hS
  obtain ⟨t', cs', hb', hl', ho', hk'⟩ := h2.ex
  exact ⟨t', cs', hb', hl', ho', hk' (Ext.set (S := (· = b)) (b := b) rfl t' _)⟩

/-- A cell is put into a slice of cells of the call's own. -/
theorem Ev.St.putCell {w0 w : World} {S : Nat → Prop} {H : List Ent} (h : St w0 S w H) (i : Nat) {e : TypeId} {b n c o k : Nat} {xs : List CellS} {d x : CellS} {K : World → Prop} (hi : H[i]? = some (ownL e 10 encCell (.slice (some ⟨b, 0, none⟩) n c) xs)) (hd : xs[k]? = some d) (ho : o = k * 10)
    (hk : ∀ w', Ext (· = b) w w' → St w0 S w' (H.set i (ownL e 10 encCell (.slice (some ⟨b, 0, none⟩) n c) (xs.set k x))) → K w') : StC w b o (encCell x) K := by
  subst ho
  have hlt := (List.getElem?_eq_some_iff.1 hd).1
  refine h.ownX i hi (by rw [flat_len codCell]; simp [encCell]; omega) rfl (fun w' hx hS => hk w' hx ?_)
  have e := flat_over codCell (k := k) (j := 0) (y := x) (vs := encCell x) hd (by simp [encCell]) (over_whole (by simp [encCell]))
  rw [Nat.add_zero] at e
  rw [e] at hS
  unfold ownL
  rw [List.length_set]
  exact hS

theorem empty_ok (w : World) : CallC Tryd.prog 60 #[] w fun v w' => ∃ g c, v = .slice (some ⟨g, 0, none⟩) 32 c ∧ Ext No w w' ∧ (ownL 55 10 encCell v emptyCells).holds w' ∧ Fresh w w' v := by
  refine fn_intro tabOk Tryd.func60 (by kernel_rfl) rfl Tryd.ntmps60 (Nat.le_of_ble_eq_true rfl) ?_
  have hS := St.start w No
  have hS := hS.add (ownL_local (e := 55) (enc := encCell) (sz := 10) (v := .slice none 0 0) (xs := [])) (own_nil _ _ _) (by simp [ownL, own, Value.ownBlock]) (by simp [ownL, own, Value.ownBlock])
  (conv => whnf)
  refine loopR tabOk (fun σ w' q => ∃ (k : Nat) (v : Value) (xs : List CellS), σ = [(2, .int .i64 k), (1, v)] ∧ q = 32 - k ∧ k ≤ 32 ∧ (∃ a' c', v = .slice a' k c') ∧ xs = emptyCells.take k ∧ St w No w' [ownL 55 10 encCell v xs])
    (σ' := [(2, .int .i64 ((0 : Nat) : Int)), (1, .slice none 0 0)]) (n := 32) ⟨rfl, rfl, trivial⟩ ⟨0, _, [], rfl, rfl, Nat.zero_le _, ⟨none, 0, rfl⟩, rfl, hS⟩ ?_
  clear hS
  rintro _ w1 q ⟨k, _, xs, rfl, rfl, hk, ⟨a', c', rfl⟩, hxs, hS⟩
  have hlen : xs.length = k := by rw [hxs, List.length_take, emptyCells_len]; omega
  (conv => whnf)
  refine brD (fun h3 => ?_) (fun h3 => ?_)
  · (conv => whnf)
    refine hS.lit (cs := encCell ⟨(k : Int), 0, noFlow⟩) Tryd.underlying50 (sz := 10) (by kernel_rfl) (z := .agg (encCell ⟨0, 0, noFlow⟩).toArray) (by kernel_rfl) rfl rfl (by rfl) (fun bl w' hbl hS => ?_)
    (conv => whnf)
    refine hS.appS codCell 0 (ys := [⟨(k : Int), 0, noFlow⟩]) (G := fun _ => True) Tryd.underlying50 (bytes := 80) (by kernel_rfl) (z := .agg (encCell ⟨0, 0, noFlow⟩).toArray) (by kernel_rfl) rfl rfl (Slc.of_blk codCell (hS.blk 1 rfl) rfl (by simp) (fun _ _ => trivial) rfl) (by unfold maxLen; omega) (by omega) (fun a2 c2 w' hS => ?_)
    replace hS := hS.keep 1
    rw [hlen] at hS ⊢
    (conv => whnf)
    refine RngC.mk (by omega) (by omega) ?_
    (conv => whnf)
    refine LoopE.mk ⟨_, [(2, .int .i64 ((k + 1 : Nat) : Int)), (1, _)], ?_, ⟨rfl, rfl, trivial⟩, ⟨k + 1, _, xs ++ [(⟨(k : Int), 0, noFlow⟩ : CellS)], rfl, rfl, by omega, ⟨a2, c2, rfl⟩, ?_, hS⟩⟩
    · omega
    · rw [List.take_add_one, emptyCells_at (by omega), hxs]
      rfl
  · obtain rfl : k = 32 := by omega
    rw [List.take_of_length_le (by rw [emptyCells_len]; exact Nat.le_refl _)] at hxs
    subst hxs
    repeat' ((conv => whnf); first | refine RetC.mk ?_ | refine NzC.mk (by decide) ?_ | refine RngC.mk (by omega) (by omega) ?_ | refine IdxC.mk (by omega) (by omega) ?_ | refine brD (fun _ => ?_) (fun _ => ?_) | refine brND (fun _ => ?_) (fun _ => ?_) | refine brN (fun _ => ?_) (fun _ => ?_) | refine brI (fun _ => ?_) (fun _ => ?_))
    obtain ⟨_, ⟨_, h⟩ | ⟨g, cap, cur, h, _⟩⟩ := hS.get 0 rfl
    · rw [emptyCells_len] at h; omega
    · simp only [Value.slice.injEq] at h
      obtain ⟨rfl, _, rfl⟩ := h
      exact ⟨g, _, rfl, hS.ext, hS.get 0 rfl, hS.freshAt 0 rfl⟩

theorem own_lt {w : World} {g n c : Nat} {e : TypeId} {xs : List CellS} (h : (ownL e 10 encCell (.slice (some ⟨g, 0, none⟩) n c) xs).holds w) : g < w.heap.size := by
  obtain ⟨_, ⟨h1, _⟩ | ⟨g', cap, cur, h1, _, h2, _⟩⟩ := h
  · cases h1
  · cases h1; exact (Array.getElem?_eq_some_iff.1 h2).1

end Go.Proofs.YteakdmngllfodaaDoor
