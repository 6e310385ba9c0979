/-
  The reference's mirror, walked: it does what package mirror does.
-/
import Derived.Test.YtnpfaghfcbbmdaaDoorMirrored
namespace Go.Proofs.YtnpfaghfcbbmdaaDoor
open Go Ev

theorem Ev.ldc {w : World} {b o : Nat} {v : Value} {k : Value → Prop} (hc : w.cell? ⟨b, o, none⟩ = some v) (hk : k v) : LdC w b o k := ⟨v, hc, hk⟩
theorem Ev.lac {w : World} {b o n : Nat} {l : List Value} {k : Value → Prop} (hn : l.length = n) (hc : CellsAt w b o l) (hk : k (.agg l.toArray)) : LdA w b o n k := ⟨l, hn, hc, hk⟩
theorem Ev.ldFc {w : World} {T : Nat → Prop} {b o : Nat} {v : Value} {k : Value → Prop} (hc : w.cell? ⟨b, o, none⟩ = some v) (hT : ¬ T b) (hk : k v) : LdF (Ext T w) b o k := ⟨v, fun _ hw => hw.cell hc hT, hk⟩
theorem Ev.laFc {w : World} {T : Nat → Prop} {b o n : Nat} {l : List Value} {k : Value → Prop} (hn : l.length = n) (hc : CellsAt w b o l) (hT : ¬ T b) (hk : k (.agg l.toArray)) : LdG (Ext T w) b o n k := ⟨l, hn, fun _ hw => hw.cells hc hT, hk⟩

/-- A store into a slice of the call's own; what it turns. -/
theorem Ev.St.ownX {w0 w : World} {S : Nat → Prop} {H : List Ent} (h : St w0 S w H) (i : Nat) {e : TypeId} {size n o b : Nat} {n' c : Nat} {xs vs : List Value} {k : World → Prop} (hi : H[i]? = some (own e size (.slice (some ⟨b, 0, none⟩) n' c) n xs)) (hle : o + vs.length ≤ xs.length) (h1 : vs.all isOne = true)
    (hk : ∀ w', Ext (· = b) w w' → St w0 S w' (H.set i (own e size (.slice (some ⟨b, 0, none⟩) n' c) n (over xs o vs))) → k w') : StC w b o vs k := by
  obtain ⟨t, cs, hb, hl, ho, _⟩ := (h.ownSt i hi hle h1 (k := fun _ => True) fun _ _ => trivial).ex
  have h2 := h.ownSt i hi hle h1 (k := fun w' => Ext (· = b) w w' → k w') fun w' hS hx => hk w' hx hS
  obtain ⟨t', cs', hb', hl', ho', hk'⟩ := h2.ex
  exact ⟨t', cs', hb', hl', ho', hk' (Ext.set (S := (· = b)) (b := b) rfl t' _)⟩

/-- A cell is put into a slice of cells of the call's own. -/
theorem Ev.St.putCell {w0 w : World} {S : Nat → Prop} {H : List Ent} (h : St w0 S w H) (i : Nat) {e : TypeId} {b n c o k : Nat} {xs : List CellS} {d x : CellS} {K : World → Prop} (hi : H[i]? = some (ownL e 10 encCell (.slice (some ⟨b, 0, none⟩) n c) xs)) (hd : xs[k]? = some d) (ho : o = k * 10)
    (hk : ∀ w', Ext (· = b) w w' → St w0 S w' (H.set i (ownL e 10 encCell (.slice (some ⟨b, 0, none⟩) n c) (xs.set k x))) → K w') : StC w b o (encCell x) K := by
  subst ho
  have hlt := (List.getElem?_eq_some_iff.1 hd).1
  refine h.ownX i hi (by rw [flat_len codCell]; simp [encCell]; omega) rfl (fun w' hx hS => hk w' hx ?_)
  have e := flat_over codCell (k := k) (j := 0) (y := x) (vs := encCell x) hd (by simp [encCell]) (over_whole (by simp [encCell]))
  rw [Nat.add_zero] at e
  rw [e] at hS
  unfold ownL
  rw [List.length_set]
  exact hS

theorem empty_ok (w : World) : CallC Tryd.prog 39 #[] w fun v w' => ∃ g c, v = .slice (some ⟨g, 0, none⟩) 32 c ∧ Ext No w w' ∧ (ownL 59 10 encCell v emptyCells).holds w' ∧ Fresh w w' v := by
  refine fn_intro tabOk Tryd.func39 (by kernel_rfl) rfl Tryd.ntmps39 (Nat.le_of_ble_eq_true rfl) ?_
  have hS := St.start w No
  have hS := hS.add (ownL_local (e := 59) (enc := encCell) (sz := 10) (v := .slice none 0 0) (xs := [])) (own_nil _ _ _) (by simp [ownL, own, Value.ownBlock]) (by simp [ownL, own, Value.ownBlock])
  (conv => whnf)
  refine loopR tabOk (fun σ w' q => ∃ (k : Nat) (v : Value) (xs : List CellS), σ = [(2, .int .i64 k), (1, v)] ∧ q = 32 - k ∧ k ≤ 32 ∧ (∃ a' c', v = .slice a' k c') ∧ xs = emptyCells.take k ∧ St w No w' [ownL 59 10 encCell v xs])
    (σ' := [(2, .int .i64 ((0 : Nat) : Int)), (1, .slice none 0 0)]) (n := 32) ⟨rfl, rfl, trivial⟩ ⟨0, _, [], rfl, rfl, Nat.zero_le _, ⟨none, 0, rfl⟩, rfl, hS⟩ ?_
  clear hS
  rintro _ w1 q ⟨k, _, xs, rfl, rfl, hk, ⟨a', c', rfl⟩, hxs, hS⟩
  have hlen : xs.length = k := by rw [hxs, List.length_take, emptyCells_len]; omega
  (conv => whnf)
  refine brD (fun h3 => ?_) (fun h3 => ?_)
  · (conv => whnf)
    refine hS.lit (cs := encCell ⟨(k : Int), 0, noFlow⟩) Tryd.underlying53 (sz := 10) (by kernel_rfl) (z := .agg (encCell ⟨0, 0, noFlow⟩).toArray) (by kernel_rfl) rfl rfl (by rfl) (fun bl w' hbl hS => ?_)
    (conv => whnf)
    refine hS.appS codCell 0 (ys := [⟨(k : Int), 0, noFlow⟩]) (G := fun _ => True) Tryd.underlying53 (bytes := 80) (by kernel_rfl) (z := .agg (encCell ⟨0, 0, noFlow⟩).toArray) (by kernel_rfl) rfl rfl (Slc.of_blk codCell (hS.blk 1 rfl) rfl (by simp) (fun _ _ => trivial) rfl) (by unfold maxLen; omega) (by omega) (fun a2 c2 w' hS => ?_)
    replace hS := hS.keep 1
    rw [hlen] at hS ⊢
    (conv => whnf)
    refine RngC.mk (by omega) (by omega) ?_
    (conv => whnf)
    refine LoopE.mk ⟨_, [(2, .int .i64 ((k + 1 : Nat) : Int)), (1, _)], ?_, ⟨rfl, rfl, trivial⟩, ⟨k + 1, _, xs ++ [(⟨(k : Int), 0, noFlow⟩ : CellS)], rfl, rfl, by omega, ⟨a2, c2, rfl⟩, ?_, hS⟩⟩
    · omega
    · rw [List.take_add_one, emptyCells_at (by omega), hxs]
      rfl
  · obtain rfl : k = 32 := by omega
    rw [List.take_of_length_le (by rw [emptyCells_len]; exact Nat.le_refl _)] at hxs
    subst hxs
    repeat' ((conv => whnf); first | refine RetC.mk ?_ | refine NzC.mk (by decide) ?_ | refine RngC.mk (by omega) (by omega) ?_ | refine IdxC.mk (by omega) (by omega) ?_ | refine brD (fun _ => ?_) (fun _ => ?_) | refine brND (fun _ => ?_) (fun _ => ?_) | refine brN (fun _ => ?_) (fun _ => ?_) | refine brI (fun _ => ?_) (fun _ => ?_))
    obtain ⟨_, ⟨_, h⟩ | ⟨g, cap, cur, h, _⟩⟩ := hS.get 0 rfl
    · rw [emptyCells_len] at h; omega
    · simp only [Value.slice.injEq] at h
      obtain ⟨rfl, _, rfl⟩ := h
      exact ⟨g, _, rfl, hS.ext, hS.get 0 rfl, hS.freshAt 0 rfl⟩

theorem ownCells_ok {w : World} {G : CellS → Prop} {a : Option Addr} {n c : Nat} {xs : List CellS} (hx : Slc w 10 encCell G a n xs) (hn : n ≤ 1000) :
    CallC Tryd.prog 40 #[.slice a n c] w fun v w' => ∃ a' c', v = .slice a' n c' ∧ Ext No w w' ∧ (ownL 59 10 encCell v xs).holds w' ∧ Fresh w w' v := by
  have hl := hx.len
  refine fn_intro tabOk Tryd.func40 (by kernel_rfl) rfl Tryd.ntmps40 (Nat.le_of_ble_eq_true rfl) ?_
  have hS := St.start w No
  have hS := hS.add (ownL_local (e := 59) (enc := encCell) (sz := 10) (v := .slice none 0 0) (xs := [])) (own_nil _ _ _) (by simp [ownL, own, Value.ownBlock]) (by simp [ownL, own, Value.ownBlock])
  (conv => whnf)
  refine hS.appS codCell 0 Tryd.underlying53 (bytes := 80) (by kernel_rfl) (z := .agg (encCell ⟨0, 0, noFlow⟩).toArray) (by kernel_rfl) rfl rfl hx (by unfold maxLen; simp; omega) (by simp; omega) (fun a2 c2 w' hS => ?_)
  have hn0 : ([] : List CellS).length + n = n := by simp
  rw [hn0, List.nil_append] at hS
  rw [hn0]
  repeat' ((conv => whnf); first | refine RetC.mk ?_ | refine NzC.mk (by decide) ?_ | refine RngC.mk (by omega) (by omega) ?_ | refine IdxC.mk (by omega) (by omega) ?_ | refine brD (fun _ => ?_) (fun _ => ?_) | refine brND (fun _ => ?_) (fun _ => ?_) | refine brN (fun _ => ?_) (fun _ => ?_) | refine brI (fun _ => ?_) (fun _ => ?_))
  exact ⟨a2, c2, rfl, hS.ext, hS.get 0 rfl, hS.freshAt 0 rfl⟩

theorem flowsOf_ok {w : World} {G : CellS → Prop} {a : Option Addr} {n c : Nat} {xs : List CellS} (hx : Slc w 10 encCell G a n xs) (hn : n ≤ 1000) :
    CallC Tryd.prog 44 #[.slice a n c] w fun v w' => ∃ a' c', v = .slice a' (flowsOf xs).length c' ∧ Ext No w w' ∧ (ownL 57 8 encFlow v (flowsOf xs)).holds w' ∧ Fresh w w' v := by
  have hl := hx.len
  refine fn_intro tabOk Tryd.func44 (by kernel_rfl) rfl Tryd.ntmps44 (Nat.le_of_ble_eq_true rfl) ?_
  have hS := St.start w No
  have hS := hS.add (ownL_local (e := 57) (enc := encFlow) (sz := 8) (v := .slice none 0 0) (xs := [])) (own_nil _ _ _) (by simp [ownL, own, Value.ownBlock]) (by simp [ownL, own, Value.ownBlock])
  (conv => whnf)
  refine loopR tabOk (fun σ w' q => ∃ (k : Nat) (v : Value), σ = [(4, .int .i64 k), (3, v), (0, .slice a n c)] ∧ q = n - k ∧ k ≤ n ∧ (∃ a' c', v = .slice a' (flowsOf (xs.take k)).length c') ∧ St w No w' [ownL 57 8 encFlow v (flowsOf (xs.take k))])
    (σ' := [(4, .int .i64 ((0 : Nat) : Int)), (3, .slice none 0 0), (0, .slice a n c)]) (n := n) ⟨rfl, rfl, rfl, trivial⟩ ⟨0, _, rfl, rfl, Nat.zero_le _, ⟨none, 0, rfl⟩, hS⟩ ?_
  clear hS
  rintro _ w1 q ⟨k, _, rfl, rfl, hk, ⟨a', c', rfl⟩, hS⟩
  (conv => whnf)
  refine brD (fun h3 => ?_) (fun h3 => ?_)
  · obtain ⟨b0, o0, x, hxk, _, rfl, _, hc⟩ := hx.at (k := k) (by omega)
    have hstep := flowsOf_step hxk
    have hlen := flowsOf_len (xs.take k)
    rw [List.length_take] at hlen
    (conv => whnf)
    refine IdxC.mk (by omega) (by omega) ?_
    (conv => whnf)
    refine hS.ldr (hc.one 2 rfl) id ?_
    (conv => whnf)
    refine brND (fun h4 => ?_) (fun h4 => ?_)
    · rw [if_pos h4] at hstep
      (conv => whnf)
      refine IdxC.mk (by omega) (by omega) ?_
      (conv => whnf)
      refine hS.lar (l := encFlow x.f) rfl (hc.sub 2 (l' := encFlow x.f) rfl) id ?_
      (conv => whnf)
      refine hS.lit (cs := encFlow x.f) Tryd.underlying73 (sz := 8) (by kernel_rfl) (z := .agg (encFlow noFlow).toArray) (by kernel_rfl) rfl rfl (by rfl) (fun bl w' hbl hS => ?_)
      (conv => whnf)
      refine hS.appS codFlow 0 (ys := [x.f]) (G := fun _ => True) Tryd.underlying73 (bytes := 64) (by kernel_rfl) (z := .agg (encFlow noFlow).toArray) (by kernel_rfl) rfl rfl (Slc.of_blk codFlow (hS.blk 1 rfl) rfl (by simp) (fun _ _ => trivial) rfl) (by unfold maxLen; omega) (by omega) (fun a2 c2 w' hS => ?_)
      replace hS := hS.keep 1
      rw [← hstep] at hS
      have hl2 : (flowsOf (xs.take k)).length + 1 = (flowsOf (xs.take (k + 1))).length := by rw [hstep]; simp
      rw [hl2] at hS ⊢
      (conv => whnf)
      refine RngC.mk (by omega) (by omega) ?_
      (conv => whnf)
      refine LoopE.mk ⟨_, [(4, .int .i64 ((k + 1 : Nat) : Int)), (3, _), (0, _)], ?_, ⟨rfl, rfl, rfl, trivial⟩, ⟨k + 1, _, rfl, rfl, by omega, ⟨a2, c2, rfl⟩, hS⟩⟩
      omega
    · rw [if_neg (fun h => h h4), List.append_nil] at hstep
      (conv => whnf)
      refine RngC.mk (by omega) (by omega) ?_
      (conv => whnf)
      refine LoopE.mk ⟨_, [(4, .int .i64 ((k + 1 : Nat) : Int)), (3, _), (0, _)], ?_, ⟨rfl, rfl, rfl, trivial⟩, ⟨k + 1, _, rfl, rfl, by omega, ⟨a', c', by rw [hstep]⟩, by rw [hstep]; exact hS⟩⟩
      omega
  · obtain rfl : k = n := by omega
    rw [List.take_of_length_le (by omega)] at hS ⊢
    repeat' ((conv => whnf); first | refine RetC.mk ?_ | refine NzC.mk (by decide) ?_ | refine RngC.mk (by omega) (by omega) ?_ | refine IdxC.mk (by omega) (by omega) ?_ | refine brD (fun _ => ?_) (fun _ => ?_) | refine brND (fun _ => ?_) (fun _ => ?_) | refine brN (fun _ => ?_) (fun _ => ?_) | refine brI (fun _ => ?_) (fun _ => ?_))
    exact ⟨a', c', rfl, hS.ext, hS.get 0 rfl, hS.freshAt 0 rfl⟩

/-- The reference's mirror: its variable, and the row of its cells. -/
def refM (bm g c : Nat) (m : MirS) : Ent := ⟨[bm, g], fun w => bm ≠ g ∧ Blk w bm 69 [.int .i64 m.life, .slice (some ⟨g, 0, none⟩) 32 c] ∧ (ownL 59 10 encCell (.slice (some ⟨g, 0, none⟩) 32 c) m.cells).holds w⟩
theorem refM_local {bm g c : Nat} {m : MirS} : (refM bm g c m).Local := fun w w' h ⟨h1, h2, h3⟩ =>
  ⟨h1, blk_local bm _ _ w w' (fun b hb => h b (by simp [blk] at hb; simp [refM, hb])) h2, ownL_local w w' (fun b hb => h b (by simp [ownL, own, Value.ownBlock] at hb; simp [refM, hb])) h3⟩
theorem own_lt {w : World} {g n c : Nat} {e : TypeId} {xs : List CellS} (h : (ownL e 10 encCell (.slice (some ⟨g, 0, none⟩) n c) xs).holds w) : g < w.heap.size := by
  obtain ⟨_, ⟨h1, _⟩ | ⟨g', cap, cur, h1, _, h2, _⟩⟩ := h
  · cases h1
  · cases h1; exact (Array.getElem?_eq_some_iff.1 h2).1

theorem refTell_ok {w : World} {bm g cap : Nat} {m : MirS} {G : CellS → Prop} {a : Option Addr} {n c : Nat} {xs : List CellS} (life : Int) (hM : (refM bm g cap m).holds w) (hm : m.cells.length = 32) (hx : Slc w 10 encCell G a n xs) (hsrc : 0 < n → ∀ b0 o0, a = some ⟨b0, o0, none⟩ → b0 ≠ bm ∧ b0 ≠ g) :
    CallC Tryd.prog 41 #[.pointer (some ⟨bm, 0, none⟩), .int .i64 life, .slice a n c] w fun v w' => ∃ g' c', v = .int .i64 (m.tell life xs).1 ∧ Ext (fun b => b = bm ∨ b = g) w w' ∧ (refM bm g' c' (m.tell life xs).2).holds w' ∧ (g' = g ∨ (w.heap.size ≤ g' ∧ g' < w'.heap.size)) := by
  obtain ⟨hbg, hB0, hO0⟩ := hM
  have hmax := hx.max
  have hlen := hx.len
  have hbl := hB0.lt
  have hgl := own_lt hO0
  refine fn_intro tabOk Tryd.func41 (by kernel_rfl) rfl Tryd.ntmps41 (Nat.le_of_ble_eq_true rfl) ?_
  have hS := (St.start w (fun b => b = bm ∨ b = g)).add (blk_local bm _ _) hB0 (by simp [blk]; exact hbl) (by simp)
  replace hS := hS.add ownL_local hO0 (by simp [ownL, own, Value.ownBlock]; exact hgl) (by simp [ownL, own, Value.ownBlock, blk]; exact hbg)
  have done : ∀ {k : Nat} {w' : World} {H : List Ent}, m.tell life xs = (k, m) → St w (fun b => b = bm ∨ b = g) w' ([] ++ [blk bm 69 [.int .i64 m.life, .slice (some ⟨g, 0, none⟩) 32 cap]] ++ [ownL 59 10 encCell (.slice (some ⟨g, 0, none⟩) 32 cap) m.cells] ++ H) →
      ∃ g' c', Value.int .i64 k = .int .i64 (m.tell life xs).1 ∧ Ext (fun b => b = bm ∨ b = g) w w' ∧ (refM bm g' c' (m.tell life xs).2).holds w' ∧ (g' = g ∨ (w.heap.size ≤ g' ∧ g' < w'.heap.size)) := by
    intro k w' H ht hS
    rw [ht]
    exact ⟨g, cap, rfl, hS.ext, ⟨hbg, hS.get 0 rfl, hS.get 1 rfl⟩, .inl rfl⟩
  (conv => whnf)
  refine brD (fun h1 => ?_) (fun h1 => ?_)
  · repeat' ((conv => whnf); first | refine RetC.mk ?_ | refine NzC.mk (by decide) ?_ | refine RngC.mk (by omega) (by omega) ?_ | refine IdxC.mk (by omega) (by omega) ?_ | refine brD (fun _ => ?_) (fun _ => ?_) | refine brND (fun _ => ?_) (fun _ => ?_) | refine brN (fun _ => ?_) (fun _ => ?_) | refine brI (fun _ => ?_) (fun _ => ?_))
    exact done (H := []) (if_pos (.inl h1)) (by simpa using hS)
  (conv => whnf)
  refine brD (fun h2 => ?_) (fun h2 => ?_)
  · repeat' ((conv => whnf); first | refine RetC.mk ?_ | refine NzC.mk (by decide) ?_ | refine RngC.mk (by omega) (by omega) ?_ | refine IdxC.mk (by omega) (by omega) ?_ | refine brD (fun _ => ?_) (fun _ => ?_) | refine brND (fun _ => ?_) (fun _ => ?_) | refine brN (fun _ => ?_) (fun _ => ?_) | refine brI (fun _ => ?_) (fun _ => ?_))
    exact done (H := []) (if_pos (.inr (.inl (by omega)))) (by simpa using hS)
  (conv => whnf)
  refine loopR tabOk (fun σ w' q => ∃ k : Nat, σ = [(7, .int .i64 k), (2, .slice a n c), (1, .int .i64 life), (0, .pointer (some ⟨bm, 0, none⟩))] ∧ q = n - k ∧ k ≤ n ∧ St w (fun b => b = bm ∨ b = g) w' [blk bm 69 [.int .i64 m.life, .slice (some ⟨g, 0, none⟩) 32 cap], ownL 59 10 encCell (.slice (some ⟨g, 0, none⟩) 32 cap) m.cells] ∧ ∀ q d, q < k → xs[q]? = some d → badSlot d = false)
    (σ' := [(7, .int .i64 ((0 : Nat) : Int)), (2, .slice a n c), (1, .int .i64 life), (0, .pointer (some ⟨bm, 0, none⟩))]) (n := n) ⟨rfl, rfl, rfl, rfl, trivial⟩ ⟨0, rfl, rfl, Nat.zero_le _, hS, fun q d h => by omega⟩ ?_
  clear hS
  rintro _ w1 q ⟨k, rfl, rfl, hk, hS, hv⟩
  (conv => whnf)
  refine brD (fun h3 => ?_) (fun h3 => ?_)
  · obtain ⟨b0, o0, x, hxk, _, rfl, hb0, hc⟩ := hx.at (k := k) (by omega)
    obtain ⟨hnb, hng⟩ := hsrc (by omega) b0 o0 rfl
    have hc0 := hc.one 0 rfl
    have hns : ¬ (b0 = bm ∨ b0 = g) := by rintro (h | h); exact hnb h; exact hng h
    repeat' ((conv => whnf); first | refine RetC.mk ?_ | refine NzC.mk (by decide) ?_ | refine RngC.mk (by omega) (by omega) ?_ | refine IdxC.mk (by omega) (by omega) ?_ | refine hS.ldr hc0 hns ?_ | refine brD (fun _ => ?_) (fun _ => ?_) | refine brND (fun _ => ?_) (fun _ => ?_) | refine brN (fun _ => ?_) (fun _ => ?_) | refine brI (fun _ => ?_) (fun _ => ?_))
    · exact done (H := []) (if_pos (.inr (.inr (List.any_eq_true.2 ⟨x, List.mem_of_getElem? hxk, by simp [badSlot]; omega⟩)))) (by simpa using hS)
    · exact done (H := []) (if_pos (.inr (.inr (List.any_eq_true.2 ⟨x, List.mem_of_getElem? hxk, by simp [badSlot]; omega⟩)))) (by simpa using hS)
    · refine LoopE.mk ⟨_, [(7, .int .i64 ((k + 1 : Nat) : Int)), (2, _), (1, _), (0, _)], ?_, ⟨rfl, rfl, rfl, rfl, trivial⟩, ⟨k + 1, rfl, rfl, by omega, hS, ?_⟩⟩
      · omega
      · intro q d hq hd
        rcases Nat.lt_or_eq_of_le (Nat.le_of_lt_succ hq) with hq | rfl
        · exact hv q d hq hd
        · rw [hxk] at hd
          cases hd
          simp [badSlot]
          omega
  have hany : xs.any badSlot = false := List.any_eq_false.2 fun x hx => by
    obtain ⟨q, hq⟩ := List.mem_iff_getElem?.1 hx
    have := (List.getElem?_eq_some_iff.1 hq).1
    rw [hv q x (by omega) hq]
    simp
  have hgood : ∀ x ∈ xs, 0 ≤ x.slot ∧ x.slot < 32 := fun x hx => by
    have := List.any_eq_false.1 hany x hx
    simp [badSlot] at this
    omega
  clear hv h3
  (conv => whnf)
  refine hS.ld 0 rfl rfl ?_
  (conv => whnf)
  refine brD (fun h4 => ?_) (fun h4 => ?_)
  · repeat' ((conv => whnf); first | refine RetC.mk ?_ | refine NzC.mk (by decide) ?_ | refine RngC.mk (by omega) (by omega) ?_ | refine IdxC.mk (by omega) (by omega) ?_ | refine brD (fun _ => ?_) (fun _ => ?_) | refine brND (fun _ => ?_) (fun _ => ?_) | refine brN (fun _ => ?_) (fun _ => ?_) | refine brI (fun _ => ?_) (fun _ => ?_))
    exact done (H := []) (k := 10) (by
      unfold MirS.tell
      rw [if_neg (by rintro (h | h | h); omega; omega; simp [hany] at h), if_pos h4]) (by simpa using hS)
  clear done
  (conv => whnf)
  refine hS.ld 0 rfl rfl ?_
  (conv => whnf)
  refine brD (fun h5 => ?_) (fun h5 => ?_)
  · have htell : m.tell life xs = (0, ⟨life, xs.foldl put1C emptyCells⟩) := by
      unfold MirS.tell
      rw [if_neg (by rintro (h | h | h); omega; omega; simp [hany] at h), if_neg h4, if_pos h5, if_pos h5]
    have hl1 := emptyCells_len
    (conv => whnf)
    refine hS.st 0 rfl (Nat.le_of_ble_eq_true rfl) rfl (fun w' hS => ?_)
    (conv => whnf)
    have hsz := hS.ext.size
    refine (empty_ok _).mono ?_
    rintro v w' ⟨g1, c1, rfl, hx', hO, hF⟩
    replace hS := hS.madeL hx' hO hF
    obtain ⟨f1, f2⟩ := hF g1 rfl
    (conv => whnf)
    refine hS.st 0 rfl (Nat.le_of_ble_eq_true rfl) rfl (fun w' hS => ?_)
    replace hS := hS.weaken (H' := [blk bm 69 [.int .i64 life, .slice (some ⟨g1, 0, none⟩) 32 c1], ownL 59 10 encCell (.slice (some ⟨g1, 0, none⟩) 32 c1) emptyCells]) (.cons_cons _ (.cons _ (List.Sublist.refl _)))
    have hg1 : w.heap.size ≤ g1 := by omega
    have hbg1 : bm ≠ g1 := by omega
    (conv => whnf)
    refine loopR tabOk (fun σ w' q => ∃ k : Nat, σ = [(8, .int .i64 k), (2, .slice a n c), (0, .pointer (some ⟨bm, 0, none⟩))] ∧ q = n - k ∧ k ≤ n ∧ St w (fun b => b = bm ∨ b = g) w' [blk bm 69 [.int .i64 life, .slice (some ⟨g1, 0, none⟩) 32 c1], ownL 59 10 encCell (.slice (some ⟨g1, 0, none⟩) 32 c1) ((xs.take k).foldl put1C emptyCells)])
      (σ' := [(8, .int .i64 ((0 : Nat) : Int)), (2, .slice a n c), (0, .pointer (some ⟨bm, 0, none⟩))]) (n := n) ⟨rfl, rfl, rfl, trivial⟩ ⟨0, rfl, rfl, Nat.zero_le _, hS⟩ ?_
    clear hS
    rintro _ w1 q ⟨k, rfl, rfl, hk, hS⟩
    (conv => whnf)
    refine brD (fun h3 => ?_) (fun h3 => ?_)
    · obtain ⟨b0, o0, x, hxk, _, rfl, hb0, hc⟩ := hx.at (k := k) (by omega)
      obtain ⟨hnb, hng⟩ := hsrc (by omega) b0 o0 rfl
      have hngg : b0 ≠ g1 := by first | exact hng | omega
      have hin := hgood x (List.mem_of_getElem? hxk)
      have hlk : ((xs.take k).foldl put1C emptyCells).length = 32 := by rw [fold_len, hl1]
      have hstep := fold_step (l := emptyCells) hxk
      generalize hL : (xs.take k).foldl put1C emptyCells = L at hS hlk hstep
      obtain ⟨d, hd⟩ : ∃ d, L[x.slot.toNat]? = some d := ⟨_, List.getElem?_eq_getElem (by omega)⟩
      rw [put1C_at hd] at hstep
      have hsl := ownL_slc (G := fun _ => True) codCell (hS.get 1 rfl) fun _ _ => trivial
      obtain ⟨_, _, d', hd', _, hg', _, hcd⟩ := hsl.at (k := x.slot.toNat) (by omega)
      cases hg'
      rw [hd] at hd'
      cases hd'
      have hcx := hc
      have hsrcL : ∀ {w2 : World}, Ext (fun b => b = bm ∨ b = g) w w2 → CellsAt w2 b0 (o0 + k * 10) (encCell x) := fun h => h.cells hc (by rintro (h | h); exact hnb h; exact hng h)
      (conv => whnf)
      (refine drawS tabOk mixed [] No [0, 1, 2, 3, 4, 5, 6, 7, 8, 9, 10, 11, 12, 13, 14, 15, 16, 17] (by kernel_rfl) ?_; rintro w1 rfl; replace hS := hS.drew)
      repeat' ((conv => whnf); first | refine RetC.mk ?_ | refine NzC.mk (by decide) ?_ | refine RngC.mk (by omega) (by omega) ?_ | refine IdxC.mk (by omega) (by omega) ?_ | refine ldFc ((hsrcL hS.ext).one 1 rfl) id ?_ | refine ldFc ((hsrcL hS.ext).one 0 rfl) id ?_ | refine hS.ldF 0 rfl rfl id ?_ | refine ldFc (hcd.one 1 rfl) id ?_ | (refine drawS tabOk mixed [] ((· = g1)) [0, 1, 2, 3, 4, 5, 6, 7, 8, 9, 10, 11, 12, 13, 14] (by kernel_rfl) ?_; rintro w1 rfl; replace hS := hS.drew) | refine brD (fun _ => ?_) (fun _ => ?_) | refine brND (fun _ => ?_) (fun _ => ?_) | refine brN (fun _ => ?_) (fun _ => ?_) | refine brI (fun _ => ?_) (fun _ => ?_))
      · rename_i hv
        rw [if_pos hv] at hstep
        repeat' ((conv => whnf); first | refine IdxC.mk (by omega) (by omega) ?_ | refine hS.ldF 0 rfl rfl hbg1 ?_ | refine ldFc ((hsrcL hS.ext).one 0 rfl) hngg ?_ | refine laFc (l := encCell x) rfl (hsrcL hS.ext) hngg ?_)
        refine hS.putCell 1 rfl hd (by simp) (fun w' hx' hS => ?_)
        refine KeepC.mk hx' ?_
        rw [← hstep] at hS
        (conv => whnf)
        refine RngC.mk (by omega) (by omega) ?_
        (conv => whnf)
        refine LoopE.mk ⟨_, [(8, .int .i64 ((k + 1 : Nat) : Int)), (2, _), (0, _)], ?_, ⟨rfl, rfl, rfl, trivial⟩, ⟨k + 1, rfl, rfl, by omega, hS⟩⟩
        omega
      · rename_i hv
        rw [if_neg hv] at hstep
        refine LoopE.mk ⟨_, [(8, .int .i64 ((k + 1 : Nat) : Int)), (2, _), (0, _)], ?_, ⟨rfl, rfl, rfl, trivial⟩, ⟨k + 1, rfl, rfl, by omega, by rw [hstep]; exact hS⟩⟩
        omega
    · obtain rfl : k = n := by omega
      rw [List.take_of_length_le (by omega)] at hS
      repeat' ((conv => whnf); first | refine RetC.mk ?_ | refine NzC.mk (by decide) ?_ | refine RngC.mk (by omega) (by omega) ?_ | refine IdxC.mk (by omega) (by omega) ?_ | refine brD (fun _ => ?_) (fun _ => ?_) | refine brND (fun _ => ?_) (fun _ => ?_) | refine brN (fun _ => ?_) (fun _ => ?_) | refine brI (fun _ => ?_) (fun _ => ?_))
      rw [htell]
      exact ⟨g1, c1, rfl, hS.ext, ⟨hbg1, hS.get 0 rfl, hS.get 1 rfl⟩, .inr ⟨hg1, own_lt (hS.get 1 rfl)⟩⟩
  · have htell : m.tell life xs = (0, ⟨m.life, xs.foldl put1C m.cells⟩) := by
      unfold MirS.tell
      rw [if_neg (by rintro (h | h | h); omega; omega; simp [hany] at h), if_neg h4, if_neg h5, if_neg h5]
    have hl1 := hm
    (conv => whnf)
    refine loopR tabOk (fun σ w' q => ∃ k : Nat, σ = [(8, .int .i64 k), (2, .slice a n c), (0, .pointer (some ⟨bm, 0, none⟩))] ∧ q = n - k ∧ k ≤ n ∧ St w (fun b => b = bm ∨ b = g) w' [blk bm 69 [.int .i64 m.life, .slice (some ⟨g, 0, none⟩) 32 cap], ownL 59 10 encCell (.slice (some ⟨g, 0, none⟩) 32 cap) ((xs.take k).foldl put1C m.cells)])
      (σ' := [(8, .int .i64 ((0 : Nat) : Int)), (2, .slice a n c), (0, .pointer (some ⟨bm, 0, none⟩))]) (n := n) ⟨rfl, rfl, rfl, trivial⟩ ⟨0, rfl, rfl, Nat.zero_le _, hS⟩ ?_
    clear hS
    rintro _ w1 q ⟨k, rfl, rfl, hk, hS⟩
    (conv => whnf)
    refine brD (fun h3 => ?_) (fun h3 => ?_)
    · obtain ⟨b0, o0, x, hxk, _, rfl, hb0, hc⟩ := hx.at (k := k) (by omega)
      obtain ⟨hnb, hng⟩ := hsrc (by omega) b0 o0 rfl
      have hngg : b0 ≠ g := by first | exact hng | omega
      have hin := hgood x (List.mem_of_getElem? hxk)
      have hlk : ((xs.take k).foldl put1C m.cells).length = 32 := by rw [fold_len, hl1]
      have hstep := fold_step (l := m.cells) hxk
      generalize hL : (xs.take k).foldl put1C m.cells = L at hS hlk hstep
      obtain ⟨d, hd⟩ : ∃ d, L[x.slot.toNat]? = some d := ⟨_, List.getElem?_eq_getElem (by omega)⟩
      rw [put1C_at hd] at hstep
      have hsl := ownL_slc (G := fun _ => True) codCell (hS.get 1 rfl) fun _ _ => trivial
      obtain ⟨_, _, d', hd', _, hg', _, hcd⟩ := hsl.at (k := x.slot.toNat) (by omega)
      cases hg'
      rw [hd] at hd'
      cases hd'
      have hcx := hc
      have hsrcL : ∀ {w2 : World}, Ext (fun b => b = bm ∨ b = g) w w2 → CellsAt w2 b0 (o0 + k * 10) (encCell x) := fun h => h.cells hc (by rintro (h | h); exact hnb h; exact hng h)
      (conv => whnf)
      (refine drawS tabOk mixed [] No [0, 1, 2, 3, 4, 5, 6, 7, 8, 9, 10, 11, 12, 13, 14, 15, 16, 17] (by kernel_rfl) ?_; rintro w1 rfl; replace hS := hS.drew)
      repeat' ((conv => whnf); first | refine RetC.mk ?_ | refine NzC.mk (by decide) ?_ | refine RngC.mk (by omega) (by omega) ?_ | refine IdxC.mk (by omega) (by omega) ?_ | refine ldFc ((hsrcL hS.ext).one 1 rfl) id ?_ | refine ldFc ((hsrcL hS.ext).one 0 rfl) id ?_ | refine hS.ldF 0 rfl rfl id ?_ | refine ldFc (hcd.one 1 rfl) id ?_ | (refine drawS tabOk mixed [] ((· = g)) [0, 1, 2, 3, 4, 5, 6, 7, 8, 9, 10, 11, 12, 13, 14] (by kernel_rfl) ?_; rintro w1 rfl; replace hS := hS.drew) | refine brD (fun _ => ?_) (fun _ => ?_) | refine brND (fun _ => ?_) (fun _ => ?_) | refine brN (fun _ => ?_) (fun _ => ?_) | refine brI (fun _ => ?_) (fun _ => ?_))
      · rename_i hv
        rw [if_pos hv] at hstep
        repeat' ((conv => whnf); first | refine IdxC.mk (by omega) (by omega) ?_ | refine hS.ldF 0 rfl rfl hbg ?_ | refine ldFc ((hsrcL hS.ext).one 0 rfl) hngg ?_ | refine laFc (l := encCell x) rfl (hsrcL hS.ext) hngg ?_)
        refine hS.putCell 1 rfl hd (by simp) (fun w' hx' hS => ?_)
        refine KeepC.mk hx' ?_
        rw [← hstep] at hS
        (conv => whnf)
        refine RngC.mk (by omega) (by omega) ?_
        (conv => whnf)
        refine LoopE.mk ⟨_, [(8, .int .i64 ((k + 1 : Nat) : Int)), (2, _), (0, _)], ?_, ⟨rfl, rfl, rfl, trivial⟩, ⟨k + 1, rfl, rfl, by omega, hS⟩⟩
        omega
      · rename_i hv
        rw [if_neg hv] at hstep
        refine LoopE.mk ⟨_, [(8, .int .i64 ((k + 1 : Nat) : Int)), (2, _), (0, _)], ?_, ⟨rfl, rfl, rfl, trivial⟩, ⟨k + 1, rfl, rfl, by omega, by rw [hstep]; exact hS⟩⟩
        omega
    · obtain rfl : k = n := by omega
      rw [List.take_of_length_le (by omega)] at hS
      repeat' ((conv => whnf); first | refine RetC.mk ?_ | refine NzC.mk (by decide) ?_ | refine RngC.mk (by omega) (by omega) ?_ | refine IdxC.mk (by omega) (by omega) ?_ | refine brD (fun _ => ?_) (fun _ => ?_) | refine brND (fun _ => ?_) (fun _ => ?_) | refine brN (fun _ => ?_) (fun _ => ?_) | refine brI (fun _ => ?_) (fun _ => ?_))
      rw [htell]
      exact ⟨g, cap, rfl, hS.ext, ⟨hbg, hS.get 0 rfl, hS.get 1 rfl⟩, .inl rfl⟩
end Go.Proofs.YtnpfaghfcbbmdaaDoor
