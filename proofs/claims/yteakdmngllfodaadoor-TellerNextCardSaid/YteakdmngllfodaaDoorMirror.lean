
/-
  Package mirror, walked.
-/
import Derived.Test.YteakdmngllfodaaDoorCells
import Derived.Test.YteakdmngllfodaaDoorEvK
namespace Go.Proofs.YteakdmngllfodaaDoor
open Go Ev

structure MirS where
  life : Int
  cells : List CellS
def encM (m : MirS) : List Value := .int .i64 m.life :: m.cells.flatMap encCell
def emptyCells : List CellS := (List.range 32).map fun (i : Nat) => (⟨(i : Int), 0, noFlow⟩ : CellS)
theorem emptyCells_at {s : Nat} (h : s < 32) : emptyCells[s]? = some ⟨s, 0, noFlow⟩ := by simp [emptyCells, h]
theorem emptyCells_len : emptyCells.length = 32 := by simp [emptyCells]
def badSlot (c : CellS) : Bool := decide (c.slot < 0) || decide (c.slot ≥ 32)
def put1C (l : List CellS) (c : CellS) : List CellS := match l[c.slot.toNat]? with
  | some d => if c.ver > d.ver then l.set c.slot.toNat c else l
  | none => l
def MirS.tell (m : MirS) (life : Int) (xs : List CellS) : Nat × MirS :=
  if life < 1 ∨ xs.length > 8 ∨ xs.any badSlot = true then (2, m) else if life < m.life then (10, m) else
  (0, ⟨if life > m.life then life else m.life, xs.foldl put1C (if life > m.life then emptyCells else m.cells)⟩)
def flowsOf (l : List CellS) : List FlowS := (l.filter fun c => decide (c.f.proto ≠ 0)).map (·.f)

theorem put1C_len (l : List CellS) (c : CellS) : (put1C l c).length = l.length := by
  unfold put1C
  split
  · split
    · exact List.length_set
    · rfl
  · rfl
theorem fold_len (xs : List CellS) : ∀ l : List CellS, (xs.foldl put1C l).length = l.length := by
  induction xs with
  | nil => intro l; rfl
  | cons x xs ih => intro l; rw [List.foldl_cons, ih, put1C_len]
theorem MirS.tell_len {m : MirS} (h : m.cells.length = 32) (life : Int) (xs : List CellS) : (m.tell life xs).2.cells.length = 32 := by
  unfold MirS.tell
  repeat' split
  all_goals first | exact h | skip
  all_goals
    simp only [fold_len]
    first | exact h | exact emptyCells_len
theorem MirS.tell_code (m : MirS) (life : Int) (xs : List CellS) : (m.tell life xs).1 < 12 := by
  unfold MirS.tell
  repeat' split
  all_goals simp
theorem encM_len {m : MirS} (h : m.cells.length = 32) : (encM m).length = 321 := by
  unfold encM
  rw [List.length_cons, flat_len codCell, h]

theorem flat_take (xs : List CellS) : (xs.flatMap encCell).take (xs.length * 10) = xs.flatMap encCell := List.take_of_length_le (by rw [flat_len codCell]; exact Nat.le_refl _)

section
variable {w : World} {b : Nat} {m : MirS}
theorem mir_slc (hb : Blk w b 114 (encM m)) (hm : m.cells.length = 32) : Slc w 10 encCell (fun _ => True) (some ⟨b, 1, none⟩) 32 m.cells :=
  Slc.of_blk codCell hb hm (by decide) (fun _ _ => trivial) (by simp only [encM, List.drop_succ_cons, List.drop_zero]; exact flat_take _)

theorem mir_cell {v : Value} {k j o : Nat} {c : CellS} (hc : m.cells[k]? = some c) (hv : (encCell c)[j]? = some v) (ho : o = 1 + (k * 10 + j)) : (encM m)[o]? = some v := by
  subst ho
  rw [Nat.add_comm 1]
  exact flat_get codCell hc hv
theorem mir_over {vs : List Value} {k j o : Nat} {c c' : CellS} (hc : m.cells[k]? = some c) (hn : j + vs.length ≤ 10) (hy : over (encCell c) j vs = encCell c') (ho : o = 1 + (k * 10 + j)) : over (encM m) o vs = encM ⟨m.life, m.cells.set k c'⟩ := by
  subst ho
  rw [Nat.add_comm 1]
  unfold encM
  rw [over_cons, flat_over codCell hc hn hy]

theorem clear_build (life : Int) (w : World) : (Instr.build 114 #[(0, .int .i64 life)]).run Tryd.prog w = .ok (.agg (encM ⟨life, List.replicate 32 ⟨0, 0, noFlow⟩⟩).toArray) w := by kernel_rfl
theorem new_build (w : World) : (Instr.build 114 #[]).run Tryd.prog w = .ok (.agg (encM ⟨0, List.replicate 32 ⟨0, 0, noFlow⟩⟩).toArray) w := by kernel_rfl

/-- While 'clear' goes on: the first k cells have their slot. -/
def partCells (k : Nat) : List CellS := (List.range k).map (fun (i : Nat) => (⟨(i : Int), 0, noFlow⟩ : CellS)) ++ List.replicate (32 - k) ⟨0, 0, noFlow⟩
theorem partCells_len {k : Nat} (h : k ≤ 32) : (partCells k).length = 32 := by simp [partCells]; omega
theorem partCells_at {k : Nat} (h : k < 32) : (partCells k)[k]? = some ⟨0, 0, noFlow⟩ := by
  unfold partCells
  rw [List.getElem?_append_right (by simp), List.getElem?_replicate]
  simp
  omega
theorem partCells_set {k : Nat} (h : k < 32) : (partCells k).set k ⟨(k : Int), 0, noFlow⟩ = partCells (k + 1) := by
  unfold partCells
  rw [List.set_append_right _ _ (by simp), List.range_succ, List.map_append, List.append_assoc]
  congr 1
  rw [show 32 - k = (32 - (k + 1)) + 1 by omega, List.replicate_succ]
  simp

theorem partCells_full : partCells 32 = emptyCells := by simp [partCells, emptyCells]

theorem clear_ok (life : Int) (hb : Blk w b 114 (encM m)) (hm : m.cells.length = 32) :
    CallC Tryd.prog 67 #[.pointer (some ⟨b, 0, none⟩), .int .i64 life] w fun v w' => Ext (· = b) w w' ∧ Blk w' b 114 (encM ⟨life, emptyCells⟩) := by
  obtain ⟨V, hV, hl, h1, hbld⟩ : ∃ V : List Value, V = encM ⟨life, partCells 0⟩ ∧ V.length = 321 ∧ V.all isOne = true ∧ ∀ w, (Instr.build 114 #[(0, .int .i64 life)]).run Tryd.prog w = .ok (.agg V.toArray) w := ⟨_, rfl, encM_len (by simp [partCells]), by unfold encM; rw [List.all_cons, flat_one codCell]; rfl, clear_build life⟩
  refine fn_intro tabOk Tryd.func67 (by kernel_rfl) rfl Tryd.ntmps67 (Nat.le_of_ble_eq_true rfl) ?_
  have hS := (St.start w (· = b)).add (blk_local b _ _) hb (by simp [blk]; exact hb.lt) (by simp)
  refine eSeq ?_
  refine eReg ?_
  refine sMov (d := 5) rfl rfl ?_
  refine sMov (d := 6) rfl rfl ?_
  refine sBuild (d := 7) rfl (fun k h => h) hbld rfl ?_
  refine sNil (d := 8) rfl rfl ?_
  refine sSt (v := .agg V.toArray) rfl rfl rfl (by simp [cellsL, hl]) ?_
  refine hS.st 0 rfl (by rw [encM_len hm]; simp [cellsL, hl]) (by simpa [cellsL] using h1) (fun w' hS => ?_)
  have ho : over (encM m) 0 (cellsL (.agg V.toArray)) = encM ⟨life, partCells 0⟩ := by
    rw [over_whole (by rw [encM_len hm]; simp [cellsL, hl])]
    simp [cellsL, hV]
  replace hS : St w (· = b) w' [blk b 114 (encM ⟨life, partCells 0⟩)] := by rw [← ho]; exact hS
  clear ho hV hl h1 hbld
  refine eNil ?_
  (conv => whnf)
  refine loopR tabOk (fun σ w' q => ∃ k : Nat, σ = [(9, .int .i64 k), (0, .pointer (some ⟨b, 0, none⟩))] ∧ q = 32 - k ∧ k ≤ 32 ∧ St w (· = b) w' [blk b 114 (encM ⟨life, partCells k⟩)])
    (σ' := [(9, .int .i64 ((0 : Nat) : Int)), (0, .pointer (some ⟨b, 0, none⟩))]) (n := 32) ⟨rfl, rfl, trivial⟩ ⟨0, rfl, rfl, Nat.zero_le _, hS⟩ ?_
  clear hS
  rintro _ w1 q ⟨k, rfl, rfl, hk, hS⟩
  (conv => whnf)
  refine brD (fun h3 => ?_) (fun h3 => ?_)
  · have hk : k < 32 := by omega
    have hc := partCells_at hk
    (conv => whnf)
    refine IdxC.mk (by omega) (by omega) ?_
    (conv => whnf)
    refine hS.st 0 rfl (by rw [encM_len (partCells_len (by omega))]; simp [cellsL]; omega) rfl (fun w' hS => ?_)
    have ho : over (encM ⟨life, partCells k⟩) (0 + 1 + Int.toNat (k : Int) * 10 + 0) [.int .i64 (k : Int)] = encM ⟨life, partCells (k + 1)⟩ := by
      rw [mir_over (k := k) (j := 0) (c' := ⟨(k : Int), 0, noFlow⟩) hc (by simp) rfl (by simp <;> omega)]
      simp only [partCells_set hk]
    replace hS : St w (· = b) w' [blk b 114 (encM ⟨life, partCells (k + 1)⟩)] := by rw [← ho]; exact hS
    clear ho
    (conv => whnf)
    refine RngC.mk (by omega) (by omega) ?_
    (conv => whnf)
    refine LoopE.mk ⟨_, [(9, .int .i64 ((k + 1 : Nat) : Int)), (0, _)], ?_, ⟨rfl, rfl, trivial⟩, ⟨k + 1, rfl, rfl, by omega, hS⟩⟩
    omega
  · obtain rfl : k = 32 := by omega
    rw [partCells_full] at hS
    repeat' ((conv => whnf); first | refine RetC.mk ?_ | refine NzC.mk (by decide) ?_ | refine RngC.mk (by omega) (by omega) ?_ | refine IdxC.mk (by omega) (by omega) ?_ | refine brD (fun _ => ?_) (fun _ => ?_) | refine brND (fun _ => ?_) (fun _ => ?_) | refine brN (fun _ => ?_) (fun _ => ?_) | refine brI (fun _ => ?_) (fun _ => ?_))
    exact ⟨hS.ext, hS.blk 0 rfl⟩

theorem new_ok (w : World) : CallC Tryd.prog 25 #[] w fun v w' => ∃ b, v = .pointer (some ⟨b, 0, none⟩) ∧ w.heap.size ≤ b ∧ Ext No w w' ∧ Blk w' b 114 (encM ⟨0, emptyCells⟩) := by
  obtain ⟨V, hV, hl, h1, hbld⟩ : ∃ V : List Value, V = encM ⟨0, partCells 0⟩ ∧ V.length = 321 ∧ V.all isOne = true ∧ ∀ w, (Instr.build 114 #[]).run Tryd.prog w = .ok (.agg V.toArray) w := ⟨_, rfl, encM_len (by simp [partCells]), by unfold encM; rw [List.all_cons, flat_one codCell]; rfl, new_build⟩
  refine fn_intro tabOk Tryd.func25 (by kernel_rfl) rfl Tryd.ntmps25 (Nat.le_of_ble_eq_true rfl) ?_
  have hS := St.start w No
  refine eSeq ?_
  refine eReg ?_
  refine sAsg (d := 0) rfl rfl ?_
  refine eNil ?_
  refine eNext ?_
  refine eSeq ?_
  refine eReg ?_
  refine sBuild (d := 2) rfl (fun k h => h) hbld rfl ?_
  refine sBox (d := 3) rfl rfl ?_
  refine hS.new (fun b w' hb hS => ?_)
  have ho : cellsL (.agg V.toArray) = encM ⟨0, partCells 0⟩ := by simp [cellsL, hV]
  rw [ho] at hS
  clear ho hV hl h1 hbld
  refine sAsg (d := 1) rfl rfl ?_
  refine eNil ?_
  (conv => whnf)
  refine (clear_ok 0 (hS.blk 0 rfl) (partCells_len (by omega))).mono ?_
  rintro v w' ⟨hx, hB⟩
  replace hS := hS.upd 0 rfl hx (fun c hc => by subst hc; exact List.mem_singleton.2 rfl) (blk_local _ _ _) hB (fun c hc => .inl hc)
  repeat' ((conv => whnf); first | refine RetC.mk ?_ | refine NzC.mk (by decide) ?_ | refine RngC.mk (by omega) (by omega) ?_ | refine IdxC.mk (by omega) (by omega) ?_ | refine brD (fun _ => ?_) (fun _ => ?_) | refine brND (fun _ => ?_) (fun _ => ?_) | refine brN (fun _ => ?_) (fun _ => ?_) | refine brI (fun _ => ?_) (fun _ => ?_))
  exact ⟨b, rfl, hb, hS.ext, hS.blk 0 rfl⟩

theorem clone_ok {G : CellS → Prop} {a : Option Addr} {n c : Nat} {xs : List CellS} (hx : Slc w 10 encCell G a n xs) (hn : n ≤ 1000) (ha : a.isSome = true) :
    CallC Tryd.prog 71 #[.slice a n c] w fun v w' => ∃ a' c', v = .slice a' n c' ∧ Ext No w w' ∧ (ownL 55 10 encCell v xs).holds w' ∧ ∀ g, v.ownBlock = some g → w.heap.size ≤ g ∧ g < w'.heap.size := by
  refine fn_intro tabOk Tryd.func71 (by kernel_rfl) rfl Tryd.ntmps71 (Nat.le_of_ble_eq_true rfl) ?_
  have hS := St.start w No
  (conv => whnf)
  refine brF (by cases a <;> simp_all) ?_
  (conv => whnf)
  refine hS.lit0 Tryd.underlying50 (sz := 10) (by kernel_rfl) (fun b0 w1 hS => ?_)
  (conv => whnf)
  refine hS.appS codCell 0 (xs := []) Tryd.underlying50 (bytes := 80) (by kernel_rfl) (z := .agg (encCell ⟨0, 0, noFlow⟩).toArray) (by kernel_rfl) rfl rfl (hx.no hS.ext) (by unfold maxLen; simp; omega) (by simp; omega) (fun a' c' w' hS => ?_)
  repeat' ((conv => whnf); first | refine RetC.mk ?_ | refine NzC.mk (by decide) ?_ | refine RngC.mk (by omega) (by omega) ?_ | refine IdxC.mk (by omega) (by omega) ?_ | refine brD (fun _ => ?_) (fun _ => ?_) | refine brND (fun _ => ?_) (fun _ => ?_) | refine brN (fun _ => ?_) (fun _ => ?_) | refine brI (fun _ => ?_) (fun _ => ?_))
  have hn0 : ([] : List CellS).length + n = n := by simp
  rw [hn0] at hS ⊢
  exact ⟨a', c', rfl, hS.ext, hS.get 0 rfl, fun g hg => by
    rcases hS.may _ (List.mem_of_getElem? (i := 0) rfl) g (by simpa [ownL, own] using hg) with ⟨h1 | h1, h2⟩
    · exact h1.elim
    · exact ⟨h1, h2⟩⟩

theorem cells_ok (hb : Blk w b 114 (encM m)) (hm : m.cells.length = 32) :
    CallC Tryd.prog 28 #[.pointer (some ⟨b, 0, none⟩)] w fun v w' => ∃ a' c', v = .slice a' 32 c' ∧ Ext No w w' ∧ (ownL 55 10 encCell v m.cells).holds w' ∧ ∀ g, v.ownBlock = some g → w.heap.size ≤ g ∧ g < w'.heap.size := by
  refine fn_intro tabOk Tryd.func28 (by kernel_rfl) rfl Tryd.ntmps28 (Nat.le_of_ble_eq_true rfl) ?_
  (conv => whnf)
  refine (clone_ok (mir_slc hb hm) (by decide) rfl).mono ?_
  rintro v w' ⟨a', c', rfl, h⟩
  repeat' ((conv => whnf); first | refine RetC.mk ?_ | refine NzC.mk (by decide) ?_ | refine RngC.mk (by omega) (by omega) ?_ | refine IdxC.mk (by omega) (by omega) ?_ | refine brD (fun _ => ?_) (fun _ => ?_) | refine brND (fun _ => ?_) (fun _ => ?_) | refine brN (fun _ => ?_) (fun _ => ?_) | refine brI (fun _ => ?_) (fun _ => ?_))
  exact ⟨a', c', rfl, h⟩

theorem tellF_ok (c : CellS) (w : World) : CallC Tryd.prog 69 ([Value.agg (encCell c).toArray] ++ []).toArray w fun v w' => v = .bool (badSlot c) ∧ Ext No w w' := by
  refine fn_intro tabOk Tryd.func69 (by kernel_rfl) rfl Tryd.ntmps69 (Nat.le_of_ble_eq_true rfl) ?_
  have hS := St.start w No
  (conv => whnf)
  refine hS.new (fun b w' hb hS => ?_)
  repeat' ((conv => whnf); first | refine RetC.mk ?_ | refine NzC.mk (by decide) ?_ | refine RngC.mk (by omega) (by omega) ?_ | refine IdxC.mk (by omega) (by omega) ?_ | refine hS.ld 0 rfl rfl ?_ | refine brD (fun _ => ?_) (fun _ => ?_) | refine brND (fun _ => ?_) (fun _ => ?_) | refine brN (fun _ => ?_) (fun _ => ?_) | refine brI (fun _ => ?_) (fun _ => ?_))
  all_goals refine ⟨?_, hS.ext⟩
  all_goals simp_all [badSlot]
  all_goals omega

theorem put1C_at {l : List CellS} {c d : CellS} (h : l[c.slot.toNat]? = some d) : put1C l c = if c.ver > d.ver then l.set c.slot.toNat c else l := by
  unfold put1C
  rw [h]
theorem fold_step {xs l : List CellS} {k : Nat} {x : CellS} (hx : xs[k]? = some x) : (xs.take (k + 1)).foldl put1C l = put1C ((xs.take k).foldl put1C l) x := by
  rw [List.take_add_one, hx, List.foldl_append]
  rfl

theorem tell_ok {E : Nat → Addr} {q : Nat} {G : CellS → Prop} {a : Option Addr} {n c : Nat} {xs : List CellS} (life : Int) (hb : Blk w b 114 (encM m)) (hm : m.cells.length = 32) (hE : Errs w E q [2, 10]) (hq : q ≤ b) (hx : Slc w 10 encCell G a n xs) (hsrc : 0 < n → ∀ b0 o0, a = some ⟨b0, o0, none⟩ → b0 ≠ b) :
    CallC Tryd.prog 26 #[.pointer (some ⟨b, 0, none⟩), .int .i64 life, .slice a n c] w fun v w' => v = errV E (m.tell life xs).1 ∧ Ext (· = b) w w' ∧ Blk w' b 114 (encM (m.tell life xs).2) := by
  have hmax := hx.max
  have hlen := hx.len
  have hbw := hb.lt
  refine fn_intro tabOk Tryd.func26 (by kernel_rfl) rfl Tryd.ntmps26 (Nat.le_of_ble_eq_true rfl) ?_
  have hS := (St.start w (· = b)).add (blk_local b _ _) hb (by simp [blk]; exact hb.lt) (by simp)
  (conv => whnf)
  refine (containsFunc_ok badSlot _ [] hx (fun x _ _ w' _ => tellF_ok x w')).mono ?_
  rintro v w' ⟨rfl, hx'⟩
  replace hS := hS.no hx'
  clear hx'
  cases hany : xs.any badSlot
  all_goals repeat' ((conv => whnf); first | refine RetC.mk ?_ | refine NzC.mk (by decide) ?_ | refine RngC.mk (by omega) (by omega) ?_ | refine IdxC.mk (by omega) (by omega) ?_ | refine hS.ldr (hE.at_ 2 rfl) (hE.ne 2 rfl hq) ?_ | refine hS.ldr (hE.at_ 10 rfl) (hE.ne 10 rfl hq) ?_ | refine hS.ld 0 rfl rfl ?_ | (refine (clear_ok life (hS.blk 0 rfl) hm).mono ?_; rintro v w' ⟨hx', hB⟩; replace hS := hS.upd 0 rfl hx' (fun c hc => by subst hc; exact List.mem_singleton.2 rfl) (blk_local _ _ _) hB (fun c hc => .inl hc)) | refine brD (fun _ => ?_) (fun _ => ?_) | refine brND (fun _ => ?_) (fun _ => ?_) | refine brN (fun _ => ?_) (fun _ => ?_) | refine brI (fun _ => ?_) (fun _ => ?_))
  all_goals first | (rw [show m.tell life xs = (2, m) from if_pos (by first | (left; assumption) | (right; left; omega) | (right; right; assumption))]; exact ⟨rfl, hS.ext, hS.blk 0 rfl⟩) | skip
  · rename_i h1 h2 h3
    rw [show m.tell life xs = (10, m) by
      unfold MirS.tell
      rw [if_neg (by rintro (h | h | h); omega; omega; simp [hany] at h), if_pos h3]]
    exact ⟨rfl, hS.ext, hS.blk 0 rfl⟩
  · have hgood : ∀ x ∈ xs, 0 ≤ x.slot ∧ x.slot < 32 := fun x hx => by
      have := List.any_eq_false.1 hany x hx
      simp [badSlot] at this
      omega
    have htell : m.tell life xs = (0, ⟨life, xs.foldl put1C emptyCells⟩) := by
      unfold MirS.tell
      rw [if_neg (by rintro (h | h | h); omega; omega; simp [hany] at h), if_neg (show ¬ life < m.life by assumption), if_pos (show life > m.life by assumption), if_pos (show life > m.life by assumption)]
    have hl1 : ((⟨life, emptyCells⟩ : MirS)).cells.length = 32 := by first | exact hm | exact emptyCells_len
    refine loopR tabOk (fun σ w' q => ∃ k : Nat, σ = [(44, .int .i64 k), (43, .int .i64 n), (42, .slice a n c), (0, .pointer (some ⟨b, 0, none⟩))] ∧ q = n - k ∧ k ≤ n ∧ St w (· = b) w' [blk b 114 (encM ⟨((⟨life, emptyCells⟩ : MirS)).life, (xs.take k).foldl put1C ((⟨life, emptyCells⟩ : MirS)).cells⟩)])
      (σ' := [(44, .int .i64 ((0 : Nat) : Int)), (43, .int .i64 n), (42, .slice a n c), (0, .pointer (some ⟨b, 0, none⟩))]) (n := n) ⟨rfl, rfl, rfl, rfl, trivial⟩ ⟨0, rfl, rfl, Nat.zero_le _, hS⟩ ?_
    clear hS
    rintro _ w1 q ⟨k, rfl, rfl, hk, hS⟩
    (conv => whnf)
    refine brD (fun h3 => ?_) (fun h3 => ?_)
    · obtain ⟨b0, o0, x, hxk, _, rfl, hb0, hc⟩ := hx.at (k := k) (by omega)
      have hnb : ¬ b0 = b := hsrc (by omega) b0 o0 rfl
      have hin := hgood x (List.mem_of_getElem? hxk)
      have hlk : ((xs.take k).foldl put1C ((⟨life, emptyCells⟩ : MirS)).cells).length = 32 := by rw [fold_len, hl1]
      have hstep := fold_step (l := ((⟨life, emptyCells⟩ : MirS)).cells) hxk
      generalize hL : (xs.take k).foldl put1C ((⟨life, emptyCells⟩ : MirS)).cells = L at hS hlk hstep
      obtain ⟨d, hd⟩ : ∃ d, L[x.slot.toNat]? = some d := ⟨_, List.getElem?_eq_getElem (by omega)⟩
      rw [put1C_at hd] at hstep
      (conv => whnf)
      refine IdxC.mk (by omega) (by omega) ?_
      (conv => whnf)
      refine hS.lar (l := encCell x) rfl hc hnb ?_
      (conv => whnf)
      refine hS.new (fun bc w' hbc hS => ?_)
      have hbcb : ¬ bc = b := by omega
      (conv => whnf)
      refine hS.st 1 rfl (Nat.le_of_ble_eq_true rfl) rfl (fun w' hS => ?_)
      replace hS : St w (· = b) w' [blk b 114 (encM ⟨((⟨life, emptyCells⟩ : MirS)).life, L⟩), blk bc 55 (encCell x)] := hS
      (conv => whnf)
      (refine drawS tabOk mixed [] No [0, 1, 2, 3, 4, 5, 6, 7, 8, 9, 10] (by kernel_rfl) ?_; rintro w1 rfl; replace hS := hS.drew)
      repeat' ((conv => whnf); first | refine RetC.mk ?_ | refine NzC.mk (by decide) ?_ | refine RngC.mk (by omega) (by omega) ?_ | refine IdxC.mk (by omega) (by omega) ?_ | refine hS.ldF 1 rfl rfl id ?_ | refine hS.ldF 0 rfl (mir_cell (k := x.slot.toNat) (j := 1) hd rfl (by simp <;> omega)) id ?_ | (refine drawS tabOk mixed [] ((· = b)) [0, 1, 2, 3, 4, 5, 6, 7] (by kernel_rfl) ?_; rintro w1 rfl; replace hS := hS.drew) | refine brD (fun _ => ?_) (fun _ => ?_) | refine brND (fun _ => ?_) (fun _ => ?_) | refine brN (fun _ => ?_) (fun _ => ?_) | refine brI (fun _ => ?_) (fun _ => ?_))
      · rename_i hv
        rw [if_pos hv] at hstep
        repeat' ((conv => whnf); first | refine IdxC.mk (by omega) (by omega) ?_ | refine hS.ldF 1 rfl rfl hbcb ?_ | refine hS.laF 1 rfl (l := encCell x) rfl rfl hbcb ?_)
        refine hS.stX 0 rfl (by rw [encM_len hlk]; simp [cellsL, encCell]; omega) rfl (fun w' hx' hS => ?_)
        refine KeepC.mk hx' ?_
        replace hS := hS.keep 1
        have ho : over (encM ⟨((⟨life, emptyCells⟩ : MirS)).life, L⟩) (0 + 1 + x.slot.toNat * 10) (cellsL (.agg (encCell x).toArray)) = encM ⟨((⟨life, emptyCells⟩ : MirS)).life, (xs.take (k + 1)).foldl put1C ((⟨life, emptyCells⟩ : MirS)).cells⟩ := by
          rw [mir_over (k := x.slot.toNat) (j := 0) (c' := x) hd (by simp [cellsL, encCell]) rfl (by simp <;> omega), hstep]
        replace hS : St w (· = b) w' [blk b 114 (encM ⟨((⟨life, emptyCells⟩ : MirS)).life, (xs.take (k + 1)).foldl put1C ((⟨life, emptyCells⟩ : MirS)).cells⟩)] := by rw [← ho]; exact hS
        (conv => whnf)
        refine RngC.mk (by omega) (by omega) ?_
        (conv => whnf)
        refine LoopE.mk ⟨_, [(44, .int .i64 ((k + 1 : Nat) : Int)), (43, _), (42, _), (0, _)], ?_, ⟨rfl, rfl, rfl, rfl, trivial⟩, ⟨k + 1, rfl, rfl, by omega, hS⟩⟩
        omega
      · rename_i hv
        rw [if_neg hv] at hstep
        replace hS := hS.keep 1
        refine LoopE.mk ⟨_, [(44, .int .i64 ((k + 1 : Nat) : Int)), (43, _), (42, _), (0, _)], ?_, ⟨rfl, rfl, rfl, rfl, trivial⟩, ⟨k + 1, rfl, rfl, by omega, by rw [hstep]; exact hS⟩⟩
        omega
    · obtain rfl : k = n := by omega
      rw [List.take_of_length_le (by omega)] at hS
      repeat' ((conv => whnf); first | refine RetC.mk ?_ | refine NzC.mk (by decide) ?_ | refine RngC.mk (by omega) (by omega) ?_ | refine IdxC.mk (by omega) (by omega) ?_ | refine brD (fun _ => ?_) (fun _ => ?_) | refine brND (fun _ => ?_) (fun _ => ?_) | refine brN (fun _ => ?_) (fun _ => ?_) | refine brI (fun _ => ?_) (fun _ => ?_))
      rw [htell]
      exact ⟨rfl, hS.ext, hS.blk 0 rfl⟩
  · have hgood : ∀ x ∈ xs, 0 ≤ x.slot ∧ x.slot < 32 := fun x hx => by
      have := List.any_eq_false.1 hany x hx
      simp [badSlot] at this
      omega
    have htell : m.tell life xs = (0, ⟨m.life, xs.foldl put1C m.cells⟩) := by
      unfold MirS.tell
      rw [if_neg (by rintro (h | h | h); omega; omega; simp [hany] at h), if_neg (show ¬ life < m.life by assumption), if_neg (show ¬ life > m.life by assumption), if_neg (show ¬ life > m.life by assumption)]
    have hl1 : (m).cells.length = 32 := by first | exact hm | exact emptyCells_len
    refine loopR tabOk (fun σ w' q => ∃ k : Nat, σ = [(44, .int .i64 k), (43, .int .i64 n), (42, .slice a n c), (0, .pointer (some ⟨b, 0, none⟩))] ∧ q = n - k ∧ k ≤ n ∧ St w (· = b) w' [blk b 114 (encM ⟨(m).life, (xs.take k).foldl put1C (m).cells⟩)])
      (σ' := [(44, .int .i64 ((0 : Nat) : Int)), (43, .int .i64 n), (42, .slice a n c), (0, .pointer (some ⟨b, 0, none⟩))]) (n := n) ⟨rfl, rfl, rfl, rfl, trivial⟩ ⟨0, rfl, rfl, Nat.zero_le _, hS⟩ ?_
    clear hS
    rintro _ w1 q ⟨k, rfl, rfl, hk, hS⟩
    (conv => whnf)
    refine brD (fun h3 => ?_) (fun h3 => ?_)
    · obtain ⟨b0, o0, x, hxk, _, rfl, hb0, hc⟩ := hx.at (k := k) (by omega)
      have hnb : ¬ b0 = b := hsrc (by omega) b0 o0 rfl
      have hin := hgood x (List.mem_of_getElem? hxk)
      have hlk : ((xs.take k).foldl put1C (m).cells).length = 32 := by rw [fold_len, hl1]
      have hstep := fold_step (l := (m).cells) hxk
      generalize hL : (xs.take k).foldl put1C (m).cells = L at hS hlk hstep
      obtain ⟨d, hd⟩ : ∃ d, L[x.slot.toNat]? = some d := ⟨_, List.getElem?_eq_getElem (by omega)⟩
      rw [put1C_at hd] at hstep
      (conv => whnf)
      refine IdxC.mk (by omega) (by omega) ?_
      (conv => whnf)
      refine hS.lar (l := encCell x) rfl hc hnb ?_
      (conv => whnf)
      refine hS.new (fun bc w' hbc hS => ?_)
      have hbcb : ¬ bc = b := by omega
      (conv => whnf)
      refine hS.st 1 rfl (Nat.le_of_ble_eq_true rfl) rfl (fun w' hS => ?_)
      replace hS : St w (· = b) w' [blk b 114 (encM ⟨(m).life, L⟩), blk bc 55 (encCell x)] := hS
      (conv => whnf)
      (refine drawS tabOk mixed [] No [0, 1, 2, 3, 4, 5, 6, 7, 8, 9, 10] (by kernel_rfl) ?_; rintro w1 rfl; replace hS := hS.drew)
      repeat' ((conv => whnf); first | refine RetC.mk ?_ | refine NzC.mk (by decide) ?_ | refine RngC.mk (by omega) (by omega) ?_ | refine IdxC.mk (by omega) (by omega) ?_ | refine hS.ldF 1 rfl rfl id ?_ | refine hS.ldF 0 rfl (mir_cell (k := x.slot.toNat) (j := 1) hd rfl (by simp <;> omega)) id ?_ | (refine drawS tabOk mixed [] ((· = b)) [0, 1, 2, 3, 4, 5, 6, 7] (by kernel_rfl) ?_; rintro w1 rfl; replace hS := hS.drew) | refine brD (fun _ => ?_) (fun _ => ?_) | refine brND (fun _ => ?_) (fun _ => ?_) | refine brN (fun _ => ?_) (fun _ => ?_) | refine brI (fun _ => ?_) (fun _ => ?_))
      · rename_i hv
        rw [if_pos hv] at hstep
        repeat' ((conv => whnf); first | refine IdxC.mk (by omega) (by omega) ?_ | refine hS.ldF 1 rfl rfl hbcb ?_ | refine hS.laF 1 rfl (l := encCell x) rfl rfl hbcb ?_)
        refine hS.stX 0 rfl (by rw [encM_len hlk]; simp [cellsL, encCell]; omega) rfl (fun w' hx' hS => ?_)
        refine KeepC.mk hx' ?_
        replace hS := hS.keep 1
        have ho : over (encM ⟨(m).life, L⟩) (0 + 1 + x.slot.toNat * 10) (cellsL (.agg (encCell x).toArray)) = encM ⟨(m).life, (xs.take (k + 1)).foldl put1C (m).cells⟩ := by
          rw [mir_over (k := x.slot.toNat) (j := 0) (c' := x) hd (by simp [cellsL, encCell]) rfl (by simp <;> omega), hstep]
        replace hS : St w (· = b) w' [blk b 114 (encM ⟨(m).life, (xs.take (k + 1)).foldl put1C (m).cells⟩)] := by rw [← ho]; exact hS
        (conv => whnf)
        refine RngC.mk (by omega) (by omega) ?_
        (conv => whnf)
        refine LoopE.mk ⟨_, [(44, .int .i64 ((k + 1 : Nat) : Int)), (43, _), (42, _), (0, _)], ?_, ⟨rfl, rfl, rfl, rfl, trivial⟩, ⟨k + 1, rfl, rfl, by omega, hS⟩⟩
        omega
      · rename_i hv
        rw [if_neg hv] at hstep
        replace hS := hS.keep 1
        refine LoopE.mk ⟨_, [(44, .int .i64 ((k + 1 : Nat) : Int)), (43, _), (42, _), (0, _)], ?_, ⟨rfl, rfl, rfl, rfl, trivial⟩, ⟨k + 1, rfl, rfl, by omega, by rw [hstep]; exact hS⟩⟩
        omega
    · obtain rfl : k = n := by omega
      rw [List.take_of_length_le (by omega)] at hS
      repeat' ((conv => whnf); first | refine RetC.mk ?_ | refine NzC.mk (by decide) ?_ | refine RngC.mk (by omega) (by omega) ?_ | refine IdxC.mk (by omega) (by omega) ?_ | refine brD (fun _ => ?_) (fun _ => ?_) | refine brND (fun _ => ?_) (fun _ => ?_) | refine brN (fun _ => ?_) (fun _ => ?_) | refine brI (fun _ => ?_) (fun _ => ?_))
      rw [htell]
      exact ⟨rfl, hS.ext, hS.blk 0 rfl⟩

/-! ### Flows -/
theorem flowsOf_step {l : List CellS} {k : Nat} {x : CellS} (hx : l[k]? = some x) : flowsOf (l.take (k + 1)) = flowsOf (l.take k) ++ (if x.f.proto ≠ 0 then [x.f] else []) := by
  rw [List.take_add_one, hx]
  unfold flowsOf
  rw [List.filter_append, List.map_append]
  congr 1
  by_cases h : x.f.proto = 0 <;> simp [h]
theorem flowsOf_len (l : List CellS) : (flowsOf l).length ≤ l.length := by
  unfold flowsOf
  rw [List.length_map]
  exact List.length_filter_le _ _

/-- What a slice of the call's own is made of anew: a row that was not there before. -/
def Fresh (w w' : World) (v : Value) : Prop := ∀ g, v.ownBlock = some g → w.heap.size ≤ g ∧ g < w'.heap.size
theorem Ev.St.freshAt {w0 w : World} {H : List Ent} (h : St w0 No w H) (i : Nat) {α : Type} {e : TypeId} {sz : Nat} {enc : α → List Value} {v : Value} {xs : List α} (hi : H[i]? = some (ownL e sz enc v xs)) : Fresh w0 w v := fun g hg => by
  rcases h.may _ (List.mem_of_getElem? hi) g (by simpa [ownL, own] using hg) with ⟨h1 | h1, h2⟩
  · exact h1.elim
  · exact ⟨h1, h2⟩
/-- It joins what is known. -/
theorem Ev.St.madeL {w0 w w' : World} {S : Nat → Prop} {H : List Ent} (h : St w0 S w H) (hx : Ext No w w') {α : Type} {e : TypeId} {sz : Nat} {enc : α → List Value} {v : Value} {xs : List α} (ho : (ownL e sz enc v xs).holds w') (hf : Fresh w w' v) : St w0 S w' (H ++ [ownL e sz enc v xs]) :=
  h.made hx (own_local _ _ _ _ _) ho fun g hg => hf g (by simpa [ownL, own] using hg)

end
end Go.Proofs.YteakdmngllfodaaDoor
