
/-
  Package table, walked: Set, Expire; what holds of a table as it changes.
-/
import Derived.Test.YteakdmngllfodaaDoorListed
namespace Go.Proofs.YteakdmngllfodaaDoor
open Go Ev

/-! ### A table in order -/
structure TOk (n : Nat) (T : MirS) : Prop where
  len : T.cells.length = 32
  ver : ∀ c ∈ T.cells, 0 ≤ c.ver ∧ c.ver ≤ n
  slot : ∀ (k : Nat) c, T.cells[k]? = some c → c.slot = k
theorem TOk.verOk {n : Nat} {T : MirS} (h : TOk n T) (hn : n ≤ 100000) : VerOk T := fun c hc => by have := h.ver c hc; omega
theorem TOk.succ {n : Nat} {T : MirS} (h : TOk n T) : TOk (n + 1) T := ⟨h.len, fun c hc => by have := h.ver c hc; omega, h.slot⟩
theorem TOk.empty (F : Int) : TOk 0 ⟨F, emptyCells⟩ := by
  refine ⟨emptyCells_len, fun c hc => ?_, fun k c hk => ?_⟩
  · simp only [emptyCells, List.mem_map] at hc
    obtain ⟨i, _, rfl⟩ := hc
    exact ⟨Int.le_refl _, Int.le_refl _⟩
  · have lt := (List.getElem?_eq_some_iff.1 hk).1
    have hk : emptyCells[k]? = some c := hk
    have lt : k < emptyCells.length := lt
    rw [emptyCells_len] at lt
    rw [emptyCells_at lt] at hk
    cases hk
    rfl
theorem TOk.set {n : Nat} {T : MirS} (h : TOk n T) (s : Nat) (f : FlowS) : TOk (n + 1) ⟨T.life, setF T.cells s f⟩ := by
  unfold setF
  cases hs : T.cells[s]? with
  | none => exact h.succ
  | some e =>
    have lt := (List.getElem?_eq_some_iff.1 hs).1
    have hev := h.ver e (List.mem_of_getElem? hs)
    refine ⟨by simpa using h.len, fun c hc => ?_, fun k c hk => ?_⟩
    · rcases List.mem_or_eq_of_mem_set hc with hc | rfl
      · have := h.ver c hc; omega
      · dsimp only; omega
    · simp only [List.getElem?_set] at hk
      by_cases h1 : s = k
      · subst h1
        rw [if_pos rfl, if_pos lt] at hk
        cases hk
        exact h.slot s e hs
      · rw [if_neg h1] at hk
        exact h.slot k c hk
theorem TOk.lay {n : Nat} {T : MirS} (h : TOk n T) (f : FlowS) : TOk (n + 1) (T.lay f).2 := by
  unfold MirS.lay
  split
  · exact h.succ
  · exact h.set _ _
theorem TOk.add {n : Nat} {T : MirS} (h : TOk n T) (pr ia ip fa fp st un : Int) : TOk (n + 1) (T.add pr ia ip fa fp st un).2 := by
  unfold MirS.add
  split
  · exact h.succ
  · split
    · exact h.lay _
    · exact h.succ
theorem TOk.put {n : Nat} {T : MirS} (h : TOk n T) (f : FlowS) : TOk (n + 1) (T.put f).2 := by
  unfold MirS.put
  split
  · exact h.succ
  · exact h.lay _
theorem TOk.setS {n : Nat} {T : MirS} (h : TOk n T) (k st un : Int) : TOk (n + 1) (T.setS k st un).2 := by
  unfold MirS.setS
  split
  · exact h.succ
  · exact h.set _ _
theorem TOk.drop {n : Nat} {T : MirS} (h : TOk n T) (k : Int) : TOk (n + 1) (T.drop k).2 := by
  unfold MirS.drop
  split
  · exact h.succ
  · exact h.set _ _
theorem MirS.lay_life' (T : MirS) (f : FlowS) : (T.lay f).2.life = T.life := by
  unfold MirS.lay
  split <;> rfl
theorem MirS.add_life' (T : MirS) (pr ia ip fa fp st un : Int) : (T.add pr ia ip fa fp st un).2.life = T.life := by
  unfold MirS.add
  split
  · rfl
  · split
    · exact T.lay_life' _
    · rfl
theorem MirS.put_life' (T : MirS) (f : FlowS) : (T.put f).2.life = T.life := by
  unfold MirS.put
  split
  · rfl
  · exact T.lay_life' _
theorem MirS.setS_life (T : MirS) (k st un : Int) : (T.setS k st un).2.life = T.life := by
  unfold MirS.setS
  split <;> rfl
theorem MirS.drop_life' (T : MirS) (k : Int) : (T.drop k).2.life = T.life := by
  unfold MirS.drop
  split <;> rfl
theorem MirS.flowErr_code (T : MirS) (k : Int) : T.flowErr k < 12 := by
  unfold MirS.flowErr
  repeat' split
  all_goals decide
theorem MirS.lay_code (T : MirS) (f : FlowS) : (T.lay f).1.2 < 12 := by
  unfold MirS.lay
  split <;> simp
theorem MirS.add_code (T : MirS) (pr ia ip fa fp st un : Int) : (T.add pr ia ip fa fp st un).1.2 < 12 := by
  unfold MirS.add
  split
  · simp
  · split
    · exact T.lay_code _
    · simp
theorem MirS.put_code (T : MirS) (f : FlowS) : (T.put f).1.2 < 12 := by
  unfold MirS.put
  split
  · simp
  · exact T.lay_code _
theorem MirS.setS_code (T : MirS) (k st un : Int) : (T.setS k st un).1 < 12 := by
  unfold MirS.setS
  split
  · exact T.flowErr_code k
  · simp
theorem MirS.drop_code (T : MirS) (k : Int) : (T.drop k).1 < 12 := by
  unfold MirS.drop
  split
  · exact T.flowErr_code k
  · simp

/-! ### Flows whose time is through -/
def expC (now : Int) (c : CellS) : Bool := decide (c.f.proto ≠ 0) && decide (c.f.til ≤ now)
def dropC (now : Int) (c : CellS) : CellS := if expC now c = true then ⟨c.slot, c.ver + 1, noFlow⟩ else c
def expCells (now : Int) (k : Nat) (l : List CellS) : List CellS := (l.take k).map (dropC now) ++ l.drop k
def expOut (now : Int) (k : Nat) (l : List CellS) : List Int := ((List.range k).filter fun i => match l[i]? with | some c => expC now c | none => false).map fun (i : Nat) => (i : Int)
theorem expCells_len (now : Int) (k : Nat) (l : List CellS) : (expCells now k l).length = l.length := by
  simp only [expCells, List.length_append, List.length_map, List.length_take, List.length_drop]
  omega
theorem expCells_at {now : Int} {k : Nat} {l : List CellS} {c : CellS} (h : l[k]? = some c) : (expCells now k l)[k]? = some c := by
  have lt := (List.getElem?_eq_some_iff.1 h).1
  unfold expCells
  rw [List.getElem?_append_right (by simp; omega)]
  simp only [List.length_map, List.length_take, Nat.min_eq_left (Nat.le_of_lt lt), Nat.sub_self, List.getElem?_drop, Nat.add_zero]
  exact h
theorem expCells_succ {now : Int} {k : Nat} {l : List CellS} {c : CellS} (h : l[k]? = some c) : expCells now (k + 1) l = (expCells now k l).set k (dropC now c) := by
  have lt := (List.getElem?_eq_some_iff.1 h).1
  have e := (List.getElem?_eq_some_iff.1 h).2
  unfold expCells
  rw [List.set_append_right _ _ (by simp; omega), List.take_add_one, h, List.map_append, List.append_assoc]
  congr 1
  simp only [List.length_map, List.length_take, Nat.min_eq_left (Nat.le_of_lt lt), Nat.sub_self]
  rw [List.drop_eq_getElem_cons lt, List.set_cons_zero]
  rfl
theorem expOut_succ {now : Int} {k : Nat} {l : List CellS} {c : CellS} (h : l[k]? = some c) : expOut now (k + 1) l = expOut now k l ++ (if expC now c = true then [(k : Int)] else []) := by
  unfold expOut
  rw [List.range_succ, List.filter_append, List.map_append]
  congr 1
  cases hc : expC now c <;> simp [h, hc]
theorem expOut_len (now : Int) (k : Nat) (l : List CellS) : (expOut now k l).length ≤ k := by
  unfold expOut
  rw [List.length_map]
  refine Nat.le_trans (List.length_filter_le _ _) ?_
  simp
def MirS.expire (T : MirS) (now : Int) : MirS := ⟨T.life, expCells now 32 T.cells⟩
theorem expCells_mem {now : Int} {k : Nat} {l : List CellS} {c : CellS} (h : c ∈ expCells now k l) : ∃ d ∈ l, c = d ∨ c = dropC now d := by
  unfold expCells at h
  rcases List.mem_append.1 h with h | h
  · obtain ⟨d, hd, rfl⟩ := List.mem_map.1 h
    exact ⟨d, List.mem_of_mem_take hd, .inr rfl⟩
  · exact ⟨c, List.mem_of_mem_drop h, .inl rfl⟩
theorem dropC_ver (now : Int) (c : CellS) : c.ver ≤ (dropC now c).ver ∧ (dropC now c).ver ≤ c.ver + 1 := by
  unfold dropC
  split
  · dsimp only; omega
  · omega
theorem dropC_slot (now : Int) (c : CellS) : (dropC now c).slot = c.slot := by
  unfold dropC
  split <;> rfl
theorem TOk.expire {n : Nat} {T : MirS} (h : TOk n T) (now : Int) (k : Nat) : TOk (n + 1) ⟨T.life, expCells now k T.cells⟩ := by
  refine ⟨(expCells_len _ _ _).trans h.len, fun c hc => ?_, fun j c hj => ?_⟩
  · obtain ⟨d, hd, h1⟩ := expCells_mem hc
    have := h.ver d hd
    have := dropC_ver now d
    rcases h1 with rfl | rfl <;> omega
  · have lt := (List.getElem?_eq_some_iff.1 hj).1
    have hj : (expCells now k T.cells)[j]? = some c := hj
    have lt : j < (expCells now k T.cells).length := lt
    rw [expCells_len] at lt
    unfold expCells at hj
    by_cases hk : j < k
    · rw [List.getElem?_append_left (by simp; omega)] at hj
      simp only [List.getElem?_map, List.getElem?_take, if_pos hk, Option.map_eq_some_iff] at hj
      obtain ⟨d, hd, rfl⟩ := hj
      rw [dropC_slot]
      exact h.slot j d hd
    · rw [List.getElem?_append_right (by simp; omega)] at hj
      simp only [List.length_map, List.length_take, List.getElem?_drop] at hj
      rcases Nat.le_total k T.cells.length with h1 | h1
      · rw [Nat.min_eq_left h1, show k + (j - k) = j by omega] at hj
        exact h.slot j c hj
      · omega

section
variable {w : World} {b : Nat} {T : MirS}
theorem tset_ok {E : Nat → Addr} {n : Nat} (k st un : Int) (hb : Blk w b 100 (encM T)) (hm : T.cells.length = 32) (hv : VerOk T) (hE : Errs w E n [2, 4]) :
    CallC Tryd.prog 16 #[.pointer (some ⟨b, 0, none⟩), .int .i64 k, .int .i64 st, .int .i64 un] w fun v w' => v = errV E (T.setS k st un).1 ∧ Ext (· = b) w w' ∧ Blk w' b 100 (encM (T.setS k st un).2) := by
  have hcode : T.flowErr k ≠ 0 → ∃ j, T.flowErr k = j + 1 := fun h => ⟨T.flowErr k - 1, by omega⟩
  have hin : T.flowErr k = 0 → 0 ≤ k ∧ k < 32 := by
    unfold MirS.flowErr
    split
    · intro h; cases h
    · intro _; omega
  unfold MirS.setS
  refine fn_intro tabOk Tryd.func16 (by kernel_rfl) rfl Tryd.ntmps16 (Nat.le_of_ble_eq_true rfl) ?_
  have hS := (St.start w (· = b)).add (blk_local b _ _) hb (by simp [blk]; exact hb.lt) (by simp)
  (conv => whnf)
  refine (flow_ok k (hS.blk 0 rfl) hm hE).mono ?_
  rintro v w2 ⟨⟨p, rfl, hp⟩, hx⟩
  replace hS := hS.no hx
  clear hx
  by_cases h : T.flowErr k = 0
  · obtain rfl := hp h
    obtain ⟨h0, h1⟩ := hin h
    rw [if_neg (by simpa using h), h]
    obtain ⟨c, hc⟩ : ∃ c, T.cells[k.toNat]? = some c := ⟨_, List.getElem?_eq_getElem (by omega)⟩
    have hcv := hv c (List.mem_of_getElem? hc)
    have hfa : flowAt T k = c.f := by unfold flowAt; rw [hc]
    rw [hfa]
    (conv => whnf)
    refine hS.st 0 rfl (by rw [encM_len hm]; simp [cellsL]; omega) rfl (fun w' hS => ?_)
    have ho : over (encM T) (0 + 1 + k.toNat * 10 + 2 + 6) [.int .i64 st] = encM ⟨T.life, T.cells.set k.toNat ⟨c.slot, c.ver, { c.f with state := st }⟩⟩ := by
      rw [mir_over (k := k.toNat) (j := 8) (c' := ⟨c.slot, c.ver, { c.f with state := st }⟩) hc (by simp) rfl (by simp <;> omega)]
    replace hS : St w (· = b) w' [blk b 100 (encM ⟨T.life, T.cells.set k.toNat ⟨c.slot, c.ver, { c.f with state := st }⟩⟩)] := by rw [← ho]; exact hS
    have hc2 : (T.cells.set k.toNat ⟨c.slot, c.ver, { c.f with state := st }⟩)[k.toNat]? = some ⟨c.slot, c.ver, { c.f with state := st }⟩ := List.getElem?_set_self (by omega)
    (conv => whnf)
    refine hS.st 0 rfl (by rw [encM_len (by simpa using hm)]; simp [cellsL]; omega) rfl (fun w' hS => ?_)
    have ho : over (encM ⟨T.life, T.cells.set k.toNat ⟨c.slot, c.ver, { c.f with state := st }⟩⟩) (0 + 1 + k.toNat * 10 + 2 + 7) [.int .i64 un] = encM ⟨T.life, T.cells.set k.toNat ⟨c.slot, c.ver, { c.f with state := st, til := un }⟩⟩ := by
      rw [mir_over (k := k.toNat) (j := 9) (c' := ⟨c.slot, c.ver, { c.f with state := st, til := un }⟩) hc2 (by simp) rfl (by simp <;> omega), List.set_set]
    replace hS : St w (· = b) w' [blk b 100 (encM ⟨T.life, T.cells.set k.toNat ⟨c.slot, c.ver, { c.f with state := st, til := un }⟩⟩)] := by rw [← ho]; exact hS
    have hc3 : (T.cells.set k.toNat ⟨c.slot, c.ver, { c.f with state := st, til := un }⟩)[k.toNat]? = some ⟨c.slot, c.ver, { c.f with state := st, til := un }⟩ := List.getElem?_set_self (by omega)
    (conv => whnf)
    refine hS.ld 0 rfl (mir_cell (k := k.toNat) (j := 1) hc3 rfl (by simp <;> omega)) ?_
    (conv => whnf)
    refine RngC.mk (by dsimp only; omega) (by dsimp only; omega) ?_
    (conv => whnf)
    refine hS.st 0 rfl (by rw [encM_len (by simpa using hm)]; simp [cellsL]; omega) rfl (fun w' hS => ?_)
    have ho : over (encM ⟨T.life, T.cells.set k.toNat ⟨c.slot, c.ver, { c.f with state := st, til := un }⟩⟩) (0 + 1 + k.toNat * 10 + 1) [.int .i64 (c.ver + 1)] = encM ⟨T.life, setF T.cells k.toNat { c.f with state := st, til := un }⟩ := by
      rw [mir_over (k := k.toNat) (j := 1) (c' := ⟨c.slot, c.ver + 1, { c.f with state := st, til := un }⟩) hc3 (by simp) rfl (by simp <;> omega), setF_at hc, List.set_set]
    replace hS : St w (· = b) w' [blk b 100 (encM ⟨T.life, setF T.cells k.toNat { c.f with state := st, til := un }⟩)] := by rw [← ho]; exact hS
    repeat' ((conv => whnf); first | refine RetC.mk ?_ | refine NzC.mk (by decide) ?_ | refine RngC.mk (by omega) (by omega) ?_ | refine IdxC.mk (by omega) (by omega) ?_ | refine brD (fun _ => ?_) (fun _ => ?_) | refine brND (fun _ => ?_) (fun _ => ?_) | refine brN (fun _ => ?_) (fun _ => ?_) | refine brI (fun _ => ?_) (fun _ => ?_))
    exact ⟨rfl, hS.ext, hS.blk 0 rfl⟩
  · rw [if_pos h]
    obtain ⟨j, hj⟩ := hcode h
    rw [hj]
    repeat' ((conv => whnf); first | refine RetC.mk ?_ | refine NzC.mk (by decide) ?_ | refine RngC.mk (by omega) (by omega) ?_ | refine IdxC.mk (by omega) (by omega) ?_ | refine brD (fun _ => ?_) (fun _ => ?_) | refine brND (fun _ => ?_) (fun _ => ?_) | refine brN (fun _ => ?_) (fun _ => ?_) | refine brI (fun _ => ?_) (fun _ => ?_))
    exact ⟨rfl, hS.ext, hS.blk 0 rfl⟩

theorem codInt : Codec 1 encI := ⟨fun _ => rfl, fun _ => rfl, by decide⟩

theorem texpire_ok {E : Nat → Addr} {n m : Nat} (now : Int) (hb : Blk w b 100 (encM T)) (hT : TOk m T) (hmm : m ≤ 1000) (hE : Errs w E n [2, 4]) (hq : n ≤ b) :
    CallC Tryd.prog 35 #[.pointer (some ⟨b, 0, none⟩), .int .i64 now] w fun v w' => (∃ a' c', v = .slice a' (expOut now 32 T.cells).length c') ∧ Ext (· = b) w w' ∧ Blk w' b 100 (encM (T.expire now)) ∧ (ownL 3 1 encI v (expOut now 32 T.cells)).holds w' ∧ Fresh w w' v := by
  have hm := hT.len
  have hbl := hb.lt
  refine fn_intro tabOk Tryd.func35 (by kernel_rfl) rfl Tryd.ntmps35 (Nat.le_of_ble_eq_true rfl) ?_
  have hS := (St.start w (· = b)).add (blk_local b _ _) hb (by simp [blk]; exact hb.lt) (by simp)
  have hl0 : CellsAt w b 1 (T.cells.flatMap encCell) := hb.cells (by rw [flat_len codCell]; simp only [encM, List.drop_succ_cons, List.drop_zero]; exact flat_take _)
  (conv => whnf)
  refine hS.la 0 rfl (l := T.cells.flatMap encCell) (by rw [flat_len codCell, hm]) (by rw [flat_len codCell]; simp only [encM, List.drop_succ_cons, List.drop_zero]; exact flat_take _) ?_
  have hS := hS.add (ownL_local (e := 3) (enc := encI) (sz := 1) (v := .slice none 0 0) (xs := [])) (own_nil _ _ _) (by simp [ownL, own, Value.ownBlock]) (by simp [ownL, own, Value.ownBlock])
  (conv => whnf)
  refine loopR tabOk (fun σ w' q => ∃ (k : Nat) (v : Value), σ = [(12, .int .i64 k), (11, .agg (T.cells.flatMap encCell).toArray), (5, v), (1, .int .i64 now), (0, .pointer (some ⟨b, 0, none⟩))] ∧ q = 32 - k ∧ k ≤ 32 ∧ (∃ a' c', v = .slice a' (expOut now k T.cells).length c') ∧ St w (· = b) w' [blk b 100 (encM ⟨T.life, expCells now k T.cells⟩), ownL 3 1 encI v (expOut now k T.cells)])
    (σ' := [(12, .int .i64 ((0 : Nat) : Int)), (11, .agg (T.cells.flatMap encCell).toArray), (5, .slice none 0 0), (1, .int .i64 now), (0, .pointer (some ⟨b, 0, none⟩))]) (n := 32) ⟨rfl, rfl, rfl, rfl, rfl, trivial⟩ ⟨0, _, rfl, rfl, Nat.zero_le _, ⟨none, 0, rfl⟩, hS⟩ ?_
  clear hS
  rintro _ w1 q ⟨k, _, rfl, rfl, hk, ⟨a', c', rfl⟩, hS⟩
  (conv => whnf)
  refine brD (fun h3 => ?_) (fun h3 => ?_)
  · obtain ⟨x, hxk⟩ : ∃ x, T.cells[k]? = some x := ⟨_, List.getElem?_eq_getElem (by omega)⟩
    have hol := expOut_len now k T.cells
    have hos := expOut_succ (now := now) hxk
    have hcs := expCells_succ (now := now) hxk
    have hca := expCells_at (now := now) hxk
    have hTk := hT.expire now k
    have hxv := hT.ver x (List.mem_of_getElem? hxk)
    (conv => whnf)
    refine PureC.of (index_run codCell (k := k) (by rw [hm]; exact Tryd.underlying98) (by kernel_rfl) ⟨_, Tryd.underlying55⟩ (by kernel_rfl) (by kernel_rfl) hxk rfl) ?_
    (conv => whnf)
    refine hS.new (fun bc w' hbc hS => ?_)
    (conv => whnf)
    refine hS.st 2 rfl (Nat.le_of_ble_eq_true rfl) rfl (fun w' hS => ?_)
    replace hS : St w (· = b) w' [blk b 100 (encM ⟨T.life, expCells now k T.cells⟩), ownL 3 1 encI (.slice a' (expOut now k T.cells).length c') (expOut now k T.cells), blk bc 55 (encCell x)] := hS
    by_cases hx : expC now x = true
    · have h1 : x.f.proto ≠ 0 ∧ x.f.til ≤ now := by simpa [expC] using hx
      rw [if_pos hx] at hos
      have hdr : (MirS.mk T.life (expCells now k T.cells)).drop k = (0, ⟨T.life, expCells now (k + 1) T.cells⟩) := by
        have hfe : (MirS.mk T.life (expCells now k T.cells)).flowErr k = 0 := by
          unfold MirS.flowErr
          rw [if_neg (by omega)]
          simp only [show ((k : Int)).toNat = k by simp, hca]
          simp [h1.1]
        unfold MirS.drop
        rw [hfe, if_neg (by simp), show ((k : Int)).toNat = k by simp]
        simp only [setF_at hca]
        rw [hcs, dropC, if_pos hx]
      (conv => whnf)
      refine hS.ld 2 rfl rfl ?_
      (conv => whnf)
      refine brND (fun _ => ?_) (fun h => absurd h h1.1)
      (conv => whnf)
      refine hS.ld 2 rfl rfl ?_
      (conv => whnf)
      refine brD (fun _ => ?_) (fun h => absurd h1.2 h)
      (conv => whnf)
      refine (tdrop_ok (k : Int) (hS.blk 0 rfl) hTk.len (hTk.verOk (by omega)) ((hE.sub rfl).ext hS.ext fun c hc => by subst hc; exact hq)).mono ?_
      rw [hdr]
      rintro v w' ⟨rfl, hx', hB⟩
      replace hS := hS.upd 0 rfl hx' (fun c hc => by subst hc; exact List.mem_singleton.2 rfl) (blk_local _ _ _) hB (fun c hc => .inl hc)
      (conv => whnf)
      refine hS.lit (cs := [.int .i64 k]) Tryd.underlying64 (sz := 1) (by kernel_rfl) (z := .int .i64 0) (by kernel_rfl) rfl rfl (by rfl) (fun bl w' hbl hS => ?_)
      (conv => whnf)
      refine hS.appS codInt 1 (ys := [(k : Int)]) (G := fun _ => True) Tryd.underlying64 (bytes := 8) (by kernel_rfl) (z := .int .i64 0) (by kernel_rfl) rfl rfl (Slc.of_blk codInt (hS.blk 3 rfl) rfl (by simp) (fun _ _ => trivial) rfl) (by unfold maxLen; omega) (by omega) (fun a2 c2 w' hS => ?_)
      replace hS := hS.keep 2
      rw [← hos] at hS
      have hl2 : (expOut now k T.cells).length + 1 = (expOut now (k + 1) T.cells).length := by rw [hos]; simp
      rw [hl2] at hS ⊢
      (conv => whnf)
      refine RngC.mk (by omega) (by omega) ?_
      (conv => whnf)
      refine LoopE.mk ⟨_, [(12, .int .i64 ((k + 1 : Nat) : Int)), (11, _), (5, _), (1, _), (0, _)], ?_, ⟨rfl, rfl, rfl, rfl, rfl, trivial⟩, ⟨k + 1, _, rfl, rfl, by omega, ⟨a2, c2, rfl⟩, hS⟩⟩
      omega
    · rw [if_neg hx, List.append_nil] at hos
      have hcs2 : expCells now (k + 1) T.cells = expCells now k T.cells := by
        rw [hcs, dropC, if_neg hx]
        obtain ⟨lt, e⟩ := List.getElem?_eq_some_iff.1 hca
        rw [← e]
        exact List.set_getElem_self lt
      have h1 : x.f.proto ≠ 0 → ¬ x.f.til ≤ now := by
        intro a b
        exact hx (by simp [expC, a, b])
      have fin : ∀ w', St w (· = b) w' [blk b 100 (encM ⟨T.life, expCells now k T.cells⟩), ownL 3 1 encI (.slice a' (expOut now k T.cells).length c') (expOut now k T.cells), blk bc 55 (encCell x)] → St w (· = b) w' [blk b 100 (encM ⟨T.life, expCells now (k + 1) T.cells⟩), ownL 3 1 encI (.slice a' (expOut now k T.cells).length c') (expOut now (k + 1) T.cells)] := by
        intro w' hS
        rw [hcs2, hos]
        exact hS.keep 2
      (conv => whnf)
      refine hS.ld 2 rfl rfl ?_
      (conv => whnf)
      refine brND (fun h4 => ?_) (fun h4 => ?_)
      · (conv => whnf)
        refine hS.ld 2 rfl rfl ?_
        (conv => whnf)
        refine brD (fun h => absurd h (h1 h4)) (fun h => ?_)
        (conv => whnf)
        refine RngC.mk (by omega) (by omega) ?_
        (conv => whnf)
        refine LoopE.mk ⟨_, [(12, .int .i64 ((k + 1 : Nat) : Int)), (11, _), (5, _), (1, _), (0, _)], ?_, ⟨rfl, rfl, rfl, rfl, rfl, trivial⟩, ⟨k + 1, _, rfl, rfl, by omega, ⟨a', c', by rw [hos]⟩, fin _ hS⟩⟩
        omega
      · (conv => whnf)
        refine RngC.mk (by omega) (by omega) ?_
        (conv => whnf)
        refine LoopE.mk ⟨_, [(12, .int .i64 ((k + 1 : Nat) : Int)), (11, _), (5, _), (1, _), (0, _)], ?_, ⟨rfl, rfl, rfl, rfl, rfl, trivial⟩, ⟨k + 1, _, rfl, rfl, by omega, ⟨a', c', by rw [hos]⟩, fin _ hS⟩⟩
        omega
  · obtain rfl : k = 32 := by omega
    repeat' ((conv => whnf); first | refine RetC.mk ?_ | refine NzC.mk (by decide) ?_ | refine RngC.mk (by omega) (by omega) ?_ | refine IdxC.mk (by omega) (by omega) ?_ | refine brD (fun _ => ?_) (fun _ => ?_) | refine brND (fun _ => ?_) (fun _ => ?_) | refine brN (fun _ => ?_) (fun _ => ?_) | refine brI (fun _ => ?_) (fun _ => ?_))
    refine ⟨⟨a', c', rfl⟩, hS.ext, hS.blk 0 rfl, hS.get 1 rfl, fun g hg => ?_⟩
    obtain ⟨h1, h2⟩ := hS.may _ (List.mem_of_getElem? (i := 1) rfl) g (by simpa [ownL, own] using hg)
    refine ⟨h1.resolve_left ?_, h2⟩
    rintro rfl
    have := pairwise_at apart_symm hS.apart (i := 0) (j := 1) rfl rfl (by decide) g (by simp [blk])
    exact this (by simpa [ownL, own] using hg)
end
end Go.Proofs.YteakdmngllfodaaDoor
