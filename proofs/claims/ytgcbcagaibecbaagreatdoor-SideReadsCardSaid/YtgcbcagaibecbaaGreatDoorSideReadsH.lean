/-
  Texts of this claim, joined: SplitG, SplitH, BytG, AtoG, AtoH, IfG, AtoI, AtoJ, AtoK, ShelfD, PolicyR.
-/
import Derived.Test.YtgcbcagaibecbaaGreatDoorSideReadsG
import Derived.Lib.SplitLaws
import Derived.Laws.IdiomStrings
import Derived.Lib.AtoiTie
import Derived.Lib.AtoiErr
import Derived.Lib.BufferWrite
set_option linter.unusedSectionVars false
set_option linter.unusedSimpArgs false
set_option linter.unusedVariables false

namespace Go.Proofs.YtgcbcagaibecbaaGreatDoor
set_option maxRecDepth 20000
open Go Ev Gap
variable [Go.Proofs.YtgcbcagaibecbaaGreatDoor.Gap.Leaps]

abbrev encT (l : List UInt8) : List Value := [.string (bs l)]
theorem codT : Codec 1 encT := ⟨fun _ => rfl, fun _ => rfl, by decide⟩
theorem flat_encT (l : List (List UInt8)) : l.flatMap encT = l.map fun l => .string (bs l) := by
  induction l with
  | nil => rfl
  | cons x l ih => rw [List.flatMap_cons, ih]; rfl
theorem cutR_count (c : UInt8) : ∀ l : List UInt8, (cutR c l).length = l.count c + 1
  | [] => rfl
  | b :: l => by
    obtain ⟨w, ws, hw⟩ := cutR_cons c l
    have ih := cutR_count c l
    by_cases hb : b = c
    · subst hb
      rw [cutR_eq, List.length_cons, ih, List.count_cons_self]
    · rw [cutR_other hb hw, List.length_cons, ← List.length_cons (a := w), ← hw, ih, List.count_cons_of_ne (by simpa using hb)]
theorem slcHi {P : Program} {t e : TypeId} {q : IntKind} {i : Int} {b n c h : Nat} {k : Value → Prop} (hu : P.underlying t = some (.slice e)) (he : (P.info? e).isSome = true) (hi : i = (h : Int)) (hc : h ≤ c) (hk : k (.slice (some ⟨b, 0, none⟩) h c)) : PureC P (Instr.sliceAt t (.slice (some ⟨b, 0, none⟩) n c) none (some (.int q i)) none) k := by
  subst hi
  have ht : P.underlying t = some (.slice (P.elem t)) := by rw [elem_of' hu]; exact hu
  refine PureC.of (fun w => ?_) hk
  rw [Go.run_sliceAt_slice w t _ _ _ _ ht, Go.run_slice_h w t _ n c ht q _ (by omega) (by omega), elem_of' hu, cellsOf_run he]
  by_cases h0 : c = 0
  · subst h0
    have : h = 0 := by omega
    subst this
    rfl
  · simp [sliced, h0, Result.andThen, Addr.add]
theorem set_rep {α : Type} (ws : List α) (n : Nat) (z y : α) : (ws ++ List.replicate (n + 1) z).set ws.length y = (ws ++ [y]) ++ List.replicate n z := by
  rw [List.set_append_right _ _ (Nat.le_refl _), Nat.sub_self, List.replicate_succ, List.set_cons_zero, List.append_assoc]
  rfl
set_option maxHeartbeats 1000000 in
theorem genSplit_ok (l : List UInt8) (c : UInt8) (w : World) (hl : l.length ≤ 100000) :
    CallC Tryz.prog 34 #[.string (bs l), .string (bs [c]), .int .i64 0, .int .i64 (-1)] w fun v w' => (∃ b, v = .slice (some ⟨b, 0, none⟩) (cutR c l).length (cutR c l).length ∧ w.heap.size ≤ b ∧ Blk w' b 9 ((cutR c l).map fun l => .string (bs l))) ∧ Ext No w w' := by
  have hcnt := cutR_count c l
  have hcl := List.count_le_length (a := c) (l := l)
  have hS := St.start w No
  refine fn_intro tabOk Tryz.func34 (by kernel_rfl) rfl Tryz.ntmps34 (Nat.le_of_ble_eq_true rfl) ?_
  (conv => whnf)
  refine eqS2 ?_
  (conv => whnf)
  refine (count_ok l c _).mono ?_
  rintro v w1 ⟨rfl, rfl⟩
  (conv => whnf)
  refine RngC.mk (by omega) (by omega) ?_
  (conv => whnf)
  refine RngC.mk (by rw [bs_size]; omega) (by rw [bs_size]; omega) ?_
  (conv => whnf)
  have hmin : (if (((bs l).size : Nat) : Int) + 1 < ((l.count c : Nat) : Int) + 1 then (((bs l).size : Nat) : Int) + 1 else ((l.count c : Nat) : Int) + 1) = (((cutR c l).length : Nat) : Int) := by
    rw [if_neg (by rw [bs_size]; omega)]
    omega
  rw [hmin]
  generalize hN : (cutR c l).length = N at hcnt
  have hrep : (madeCells (Value.string (bs [])).cells (N * 1)).toList = (List.replicate N ([] : List UInt8)).flatMap encT := by
    show (madeCells #[Value.string (bs [])] (N * 1)).toList = _
    rw [made_rep, Nat.mul_one, flat_encT, List.map_replicate]
  refine hS.mkSlice (xs := List.replicate N ([] : List UInt8)) (enc := encT) (sz := 1) (bytes := 16) (e := 9) (z := .string (bs [])) Tryz.underlying22 (by kernel_rfl) (by kernel_rfl) (by omega) (by omega) (by unfold maxLen; omega) (by simp) hrep (fun b w2 hb hS => ?_)
  replace hS : St w No w2 [ownL 9 1 encT (.slice (some ⟨b, 0, none⟩) N N) (([] : List (List UInt8)) ++ List.replicate (N - 0) [])] := hS
  (conv => whnf)
  refine RngC.mk (by omega) (by omega) ?_
  (conv => whnf)
  rw [show ((N : Nat) : Int) - 1 = ((N - 1 : Nat) : Int) by omega]
  refine loopR tabOk (fun σ w' q => ∃ (k : Nat) (rr : List UInt8) (ws : List (List UInt8)), σ = [(10, .int .i64 ((k : Nat) : Int)), (3, .int .i64 ((N - 1 : Nat) : Int)), (9, .slice (some ⟨b, 0, none⟩) N N), (0, .string (bs rr)), (1, .string (bs [c])), (2, .int .i64 0)] ∧ q = N - 1 - k ∧ k ≤ N - 1 ∧ cutR c l = ws ++ cutR c rr ∧ ws.length = k ∧ rr.length ≤ l.length ∧ St w No w' [ownL 9 1 encT (.slice (some ⟨b, 0, none⟩) N N) (ws ++ List.replicate (N - k) [])])
    (σ' := [(10, .int .i64 ((0 : Nat) : Int)), (3, .int .i64 ((N - 1 : Nat) : Int)), (9, .slice (some ⟨b, 0, none⟩) N N), (0, .string (bs l)), (1, .string (bs [c])), (2, .int .i64 0)]) (n := N - 1) ⟨rfl, rfl, rfl, rfl, rfl, rfl, trivial⟩ ⟨0, l, [], rfl, rfl, Nat.zero_le _, rfl, rfl, Nat.le_refl _, hS⟩ ?_
  clear hS
  rintro _ w3 q ⟨k, rr, ws, rfl, rfl, hk, hcut, hws, hrr, hS⟩
  have hlen : (cutR c rr).length = N - k := by
    have := congrArg List.length hcut
    rw [List.length_append] at this
    omega
  have hcr := cutR_count c rr
  (conv => whnf)
  refine brD (fun h3 => ?_) (fun h3 => ?_)
  · (conv => whnf)
    refine (index_ok rr c _).mono ?_
    rintro v w4 ⟨rfl, rfl⟩
    rcases index_cases rr c with ⟨_, h2⟩ | ⟨i, h1, h2, h4, h5⟩
    · exfalso
      have := congrArg List.length (cutR_one rr h2)
      simp at this
      omega
    rw [h1]
    have e3 : decide ((i : Int) < 0) = false := decide_eq_false (by omega)
    (conv => whnf)
    rw [e3]
    (conv => whnf)
    refine RngC.mk (by omega) (by omega) ?_
    (conv => whnf)
    refine slcTo Tryz.underlying9 (b := i) (by omega) (by omega) rfl ?_
    (conv => whnf)
    refine IdxC.mk (by omega) (by omega) ?_
    (conv => whnf)
    have hk1 : N - k = (N - (k + 1)) + 1 := by omega
    have hrow : (ws ++ List.replicate (N - k) ([] : List UInt8))[k]? = some [] := by
      rw [hk1, List.getElem?_append_right (by omega), hws, Nat.sub_self]
      rfl
    refine hS.setL codT (k := k) (x := rr.take i) 0 rfl hrow (by omega) rfl (fun w5 hx5 hS => ?_)
    have hset : (ws ++ List.replicate (N - k) ([] : List UInt8)).set k (rr.take i) = (ws ++ [rr.take i]) ++ List.replicate (N - (k + 1)) [] := by
      rw [hk1, ← hws]
      exact set_rep ws _ _ _
    rw [hset] at hS
    replace hS : St w No w5 [ownL 9 1 encT (.slice (some ⟨b, 0, none⟩) N N) ((ws ++ [rr.take i]) ++ List.replicate (N - (k + 1)) [])] := hS
    (conv => whnf)
    refine RngC.mk (by rw [bs_size]; simp; omega) (by rw [bs_size]; simp; omega) ?_
    (conv => whnf)
    refine slcFrom Tryz.underlying9 (b := i + 1) (by rw [bs_size]; simp) (by omega) rfl ?_
    (conv => whnf)
    refine RngC.mk (by omega) (by omega) ?_
    (conv => whnf)
    have hc1 : cutR c rr = rr.take i :: cutR c (rr.drop (i + 1)) := by
      conv => lhs; rw [← List.take_append_drop i rr, h5]
      exact cutR_word _ _ h4
    refine LoopE.mk ⟨_, [(10, .int .i64 ((k + 1 : Nat) : Int)), (3, _), (9, _), (0, _), (1, _), (2, _)], ?_, ⟨rfl, rfl, rfl, rfl, rfl, rfl, trivial⟩, ⟨k + 1, rr.drop (i + 1), ws ++ [rr.take i], rfl, rfl, by omega, by rw [hcut, hc1]; simp, by simp [hws], by rw [List.length_drop]; omega, hS⟩⟩
    omega
  · have hone : cutR c rr = [rr] := cutR_one rr (fun hm => by
      have := List.count_pos_iff.2 hm
      omega)
    have hk1 : N - k = 1 := by omega
    (conv => whnf)
    refine IdxC.mk (by omega) (by omega) ?_
    (conv => whnf)
    have hrow : (ws ++ List.replicate (N - k) ([] : List UInt8))[k]? = some [] := by
      rw [hk1, List.getElem?_append_right (by omega), hws, Nat.sub_self]
      rfl
    refine hS.setL codT (k := k) (x := rr) 0 rfl hrow (by omega) rfl (fun w5 hx5 hS => ?_)
    have hset : (ws ++ List.replicate (N - k) ([] : List UInt8)).set k rr = cutR c l := by
      rw [hk1, ← hws, set_rep ws 0 _ _, hcut, hone]
      simp
    rw [hset] at hS
    replace hS : St w No w5 [ownL 9 1 encT (.slice (some ⟨b, 0, none⟩) N N) (cutR c l)] := hS
    (conv => whnf)
    refine RngC.mk (by omega) (by omega) ?_
    (conv => whnf)
    refine slcHi (h := N) Tryz.underlying22 (by kernel_rfl) (by omega) (Nat.le_refl _) ?_
    repeat' ((conv => whnf); first | refine RetC.mk ?_ | refine NzC.mk (by decide) ?_ | refine RngC.mk (by omega) (by omega) ?_ | refine IdxC.mk (by omega) (by omega) ?_ | refine brD (fun _ => ?_) (fun _ => ?_) | refine brND (fun _ => ?_) (fun _ => ?_) | refine brN (fun _ => ?_) (fun _ => ?_) | refine brI (fun _ => ?_) (fun _ => ?_))
    refine ⟨⟨b, rfl, hb, ?_⟩, hS.ext⟩
    obtain ⟨hl2, ⟨h6, _⟩ | ⟨g', cap', cur, h6, _, h7, h8, h9, h10, h11⟩⟩ := hS.get 0 rfl
    · cases h6
    injection h6 with e1 e2 e3
    injection e1 with e1
    injection e1 with e1
    subst e1 e3
    show w5.heap[b]? = _
    rw [h7]
    have hcur : cur.toList = (cutR c l).map fun l => .string (bs l) := by
      rw [← flat_encT, ← h11, List.take_of_length_le (by simp; omega)]
    rw [← hcur]
end Go.Proofs.YtgcbcagaibecbaaGreatDoor

namespace Go.Proofs.YtgcbcagaibecbaaGreatDoor
set_option maxRecDepth 20000
open Go Ev Gap
variable [Go.Proofs.YtgcbcagaibecbaaGreatDoor.Gap.Leaps]

def MaxL (_ : World) : Prop := True
theorem MaxL.no {w w' : World} (h : MaxL w) (_ : Ext No w w') : MaxL w' := h
theorem split_ok (l : List UInt8) (c : UInt8) (w : World) (hl : l.length ≤ 100000) (_ : MaxL w) :
    CallC Tryz.prog 21 #[.string (bs l), .string (bs [c])] w fun v w' => (∃ b, v = .slice (some ⟨b, 0, none⟩) (cutR c l).length (cutR c l).length ∧ w.heap.size ≤ b ∧ Blk w' b 9 ((cutR c l).map fun l => .string (bs l))) ∧ Ext No w w' := by
  refine fn_intro tabOk Tryz.func21 (by kernel_rfl) rfl Tryz.ntmps21 (Nat.le_of_ble_eq_true rfl) ?_
  (conv => whnf)
  refine (genSplit_ok l c w hl).mono ?_
  rintro v w' ⟨⟨b, rfl, h1, h2⟩, hx⟩
  repeat' ((conv => whnf); first | refine RetC.mk ?_ | refine NzC.mk (by decide) ?_ | refine RngC.mk (by omega) (by omega) ?_ | refine IdxC.mk (by omega) (by omega) ?_ | refine brD (fun _ => ?_) (fun _ => ?_) | refine brND (fun _ => ?_) (fun _ => ?_) | refine brN (fun _ => ?_) (fun _ => ?_) | refine brI (fun _ => ?_) (fun _ => ?_))
  exact ⟨⟨b, rfl, h1, h2⟩, hx⟩
theorem cutT_ok (l : List UInt8) (c : UInt8) (w : World) (hl : l.length ≤ 100000) (_ : MaxL w) :
    CallC Tryz.prog 37 #[.string (bs l), .string (bs [c])] w fun v w' => v = .tuple #[.string (bs (Lib.cut l [c]).1), .string (bs (Lib.cut l [c]).2.1), .bool (Lib.cut l [c]).2.2] ∧ Ext No w w' := scutT_ok l c w hl
theorem hassuf_ok (l : List UInt8) (w : World) (hl : l.length ≤ 100000) : CallC Tryz.prog 63 #[.string (bs l), .string (bs [10])] w fun v w' => v = .bool (decide (l.getLast? = some 10)) ∧ w = w' := by
  have hs1 : (((bs [10]).size : Nat) : Int) = 1 := rfl
  have hsz := bs_size l
  refine fn_intro tabOk Tryz.func63 (by kernel_rfl) rfl Tryz.ntmps63 (Nat.le_of_ble_eq_true rfl) ?_
  (conv => whnf)
  rcases List.eq_nil_or_concat l with rfl | ⟨r, y, hl2⟩
  · rw [show decide ((((bs []).size : Nat) : Int) ≥ (((bs [10]).size : Nat) : Int)) = false from decide_eq_false (by rw [hs1, bs_size]; simp)]
    repeat' ((conv => whnf); first | refine RetC.mk ?_ | refine NzC.mk (by decide) ?_ | refine RngC.mk (by omega) (by omega) ?_ | refine IdxC.mk (by omega) (by omega) ?_ | refine brD (fun _ => ?_) (fun _ => ?_) | refine brND (fun _ => ?_) (fun _ => ?_) | refine brN (fun _ => ?_) (fun _ => ?_) | refine brI (fun _ => ?_) (fun _ => ?_))
    exact ⟨rfl, rfl⟩
  · rw [List.concat_eq_append] at hl2
    have hlen : l.length = r.length + 1 := by rw [hl2]; simp
    rw [show decide ((((bs l).size : Nat) : Int) ≥ (((bs [10]).size : Nat) : Int)) = true from decide_eq_true (by rw [hs1, bs_size]; omega)]
    (conv => whnf)
    refine RngC.mk (by rw [hs1, bs_size]; omega) (by rw [hs1, bs_size]; omega) ?_
    (conv => whnf)
    refine slcFrom (r := [y]) Tryz.underlying9 (b := r.length) (by rw [hs1, bs_size]; omega) (by omega) (by rw [hl2]; simp) ?_
    (conv => whnf)
    refine eqS2 ?_
    repeat' ((conv => whnf); first | refine RetC.mk ?_ | refine NzC.mk (by decide) ?_ | refine RngC.mk (by omega) (by omega) ?_ | refine IdxC.mk (by omega) (by omega) ?_ | refine brD (fun _ => ?_) (fun _ => ?_) | refine brND (fun _ => ?_) (fun _ => ?_) | refine brN (fun _ => ?_) (fun _ => ?_) | refine brI (fun _ => ?_) (fun _ => ?_))
    refine ⟨?_, rfl⟩
    rw [hl2]
    simp
theorem trimIn_ok (l : List UInt8) (w : World) (hl : l.length ≤ 100000) : CallC Tryz.prog 35 #[.string (bs l), .string (bs [10])] w fun v w' => v = .string (bs (trimN l)) ∧ w = w' := by
  have hs1 : (((bs [10]).size : Nat) : Int) = 1 := rfl
  have hsz := bs_size l
  refine fn_intro tabOk Tryz.func35 (by kernel_rfl) rfl Tryz.ntmps35 (Nat.le_of_ble_eq_true rfl) ?_
  (conv => whnf)
  refine (hassuf_ok l _ hl).mono ?_
  rintro v w' ⟨rfl, rfl⟩
  unfold trimN
  (conv => whnf)
  refine brD (fun h => ?_) (fun h => ?_)
  · rw [if_pos h]
    have hpos : l ≠ [] := fun e => by rw [e] at h; cases h
    have hlp := List.length_pos_iff.2 hpos
    (conv => whnf)
    refine RngC.mk (by rw [hs1, bs_size]; omega) (by rw [hs1, bs_size]; omega) ?_
    (conv => whnf)
    refine slcTo (r := l.dropLast) Tryz.underlying9 (b := l.length - 1) (by rw [hs1, bs_size]; omega) (by omega) (by rw [List.dropLast_eq_take]) ?_
    repeat' ((conv => whnf); first | refine RetC.mk ?_ | refine NzC.mk (by decide) ?_ | refine RngC.mk (by omega) (by omega) ?_ | refine IdxC.mk (by omega) (by omega) ?_ | refine brD (fun _ => ?_) (fun _ => ?_) | refine brND (fun _ => ?_) (fun _ => ?_) | refine brN (fun _ => ?_) (fun _ => ?_) | refine brI (fun _ => ?_) (fun _ => ?_))
    exact ⟨rfl, rfl⟩
  · rw [if_neg h]
    repeat' ((conv => whnf); first | refine RetC.mk ?_ | refine NzC.mk (by decide) ?_ | refine RngC.mk (by omega) (by omega) ?_ | refine IdxC.mk (by omega) (by omega) ?_ | refine brD (fun _ => ?_) (fun _ => ?_) | refine brND (fun _ => ?_) (fun _ => ?_) | refine brN (fun _ => ?_) (fun _ => ?_) | refine brI (fun _ => ?_) (fun _ => ?_))
    exact ⟨rfl, rfl⟩
theorem trim_ok (l : List UInt8) (w : World) (hl : l.length ≤ 100000) :
    CallC Tryz.prog 22 #[.string (bs l), .string (bs [10])] w fun v w' => v = .string (bs (trimN l)) ∧ Ext No w w' := by
  refine fn_intro tabOk Tryz.func22 (by kernel_rfl) rfl Tryz.ntmps22 (Nat.le_of_ble_eq_true rfl) ?_
  (conv => whnf)
  refine (trimIn_ok l w hl).mono ?_
  rintro v w' ⟨rfl, rfl⟩
  repeat' ((conv => whnf); first | refine RetC.mk ?_ | refine NzC.mk (by decide) ?_ | refine RngC.mk (by omega) (by omega) ?_ | refine IdxC.mk (by omega) (by omega) ?_ | refine brD (fun _ => ?_) (fun _ => ?_) | refine brND (fun _ => ?_) (fun _ => ?_) | refine brN (fun _ => ?_) (fun _ => ?_) | refine brI (fun _ => ?_) (fun _ => ?_))
  exact ⟨rfl, Ext.refl _ _⟩
end Go.Proofs.YtgcbcagaibecbaaGreatDoor

namespace Go.Proofs.YtgcbcagaibecbaaGreatDoor
set_option maxRecDepth 20000
open Go Ev Gap
variable [Go.Proofs.YtgcbcagaibecbaaGreatDoor.Gap.Leaps]

def rowU (b : Nat) (l : List UInt8) : Ent := ⟨[b], fun w => CellsAt w b 0 (l.flatMap encU)⟩
theorem rowU_local (b : Nat) (l : List UInt8) : (rowU b l).Local := fun w w' h hb i v hv => by
  have := hb i v hv
  unfold World.cell? at this ⊢
  simp only at this ⊢
  rw [h b (by simp [rowU])]
  exact this
section
variable {P : Program} {w : World} {src dst e : TypeId} {l : List UInt8}
theorem bytes_loud (hs : P.underlying src = some .string) (hd : P.underlying dst = some (.slice e)) (he : P.underlying e = some (.int .u8)) :
    Loud P (Go.convert src dst (.string (bs l))) w (.slice (some ⟨w.heap.size, 0, none⟩) (bs l).size (grownCap w (bs l).size 0 e)) (w.drew.alloc (.cells (bytesRow (bs l) (grownCap w (bs l).size 0 e)) e ((bytesRow (bs l) (grownCap w (bs l).size 0 e)).size, (bytesRow (bs l) (grownCap w (bs l).size 0 e)).size + 1))) := by
  intro O Z W hl hsz hdr
  have hg : grownCap W (bs l).size 0 e = grownCap w (bs l).size 0 e := by unfold grownCap; rw [← hl.tape, ← hdr]
  have hrun := run_bytes_of_string (P := P) W src dst e (bs l) hs hd he
  rw [hg, ← hsz] at hrun
  generalize hrow : bytesRow (bs l) (grownCap w (bs l).size 0 e) = row at hrun ⊢
  have hold : ∀ (X : World) (o : Obj) (k : Nat), k < X.heap.size → (X.drew.alloc o).heap[k]? = X.heap[k]? := fun X o k hk => by
    show (X.heap.push _)[k]? = _
    rw [Array.getElem?_push, if_neg (by omega)]
  have hnew : ∀ (X : World) (o : Obj), (X.drew.alloc o).heap[X.heap.size]? = some o := fun X o => by
    show (X.heap.push _)[X.heap.size]? = _
    rw [Array.getElem?_push, if_pos rfl]
  have hss : ∀ (X : World) (o : Obj), (X.drew.alloc o).heap.size = X.heap.size + 1 := fun X o => by
    show (X.heap.push _).size = _
    rw [Array.size_push]
  refine ⟨_, ⟨hrun, rfl, rfl, rfl, by rw [hss]; omega, fun k hk _ => hold W _ k hk, fun ev hev => ?_⟩, ⟨hl.os, hl.tape, hl.output, by rw [hss, hss]; omega, fun k hk => ?_, fun k o hk h => ?_, fun k t hk h => ?_⟩⟩
  · exfalso
    have hsh : ∀ (C : Array Value), (W.drew.alloc (.cells C e)).shape? W.heap.size = some (e, C.size) := fun C => by
      unfold World.shape?
      rw [hnew W (.cells C e)]
    simp [convert, run_underlying hs, run_underlying hd, run_underlying he, Conv.stringToBytes, Question.forced, newRow, markStringish, hsh] at hev
  · rcases hk with hk | ⟨h1, h2⟩
    · obtain ⟨o, x1, x2, x3⟩ := hl.own k hk
      have k1 := (Array.getElem?_eq_some_iff.1 x1).1
      exact ⟨o, (hold w _ k k1).trans x1, (hold W _ k (by omega)).trans x2, x3⟩
    · rw [hss] at h2
      obtain rfl : k = W.heap.size := by omega
      exact ⟨_, by rw [← hsz]; exact hnew w _, hnew W _, rfl⟩
  · have hk1 : ¬ O k := fun h => hk (.inl h)
    have hlt := (Array.getElem?_eq_some_iff.1 h).1
    rw [hss] at hlt
    have hkw : k < w.heap.size := by
      rcases Nat.lt_or_ge k w.heap.size with h' | h'
      · exact h'
      · exact absurd (.inr ⟨by omega, by rw [hss]; omega⟩) hk
    rw [hold w _ k hkw] at h
    rw [hold W _ k (by omega)]
    exact hl.rest k o hk1 h
  · have hk1 : ¬ O k := fun h => hk (.inl h)
    have hlt := (Array.getElem?_eq_some_iff.1 h).1
    rw [hss] at hlt
    have hkw : k < w.heap.size := by
      rcases Nat.lt_or_ge k w.heap.size with h' | h'
      · exact h'
      · exact absurd (.inr ⟨by omega, by rw [hss]; omega⟩) hk
    rw [hold w _ k hkw] at h
    rw [hold W _ k (by omega)]
    exact hl.flat k t hk1 h
theorem bytesC {w0 : World} {S : Nat → Prop} {H : List Ent} {k : Value → World → Prop} (h : St w0 S w H) (hs : P.underlying src = some .string) (hd : P.underlying dst = some (.slice e)) (he : P.underlying e = some (.int .u8))
    (hk : ∀ b cap w', w0.heap.size ≤ b → l.length ≤ cap → St w0 S w' (H ++ [rowU b l]) → k (.slice (some ⟨b, 0, none⟩) l.length cap) w') : RunC P (Go.convert src dst (.string (bs l))) w k := by
  refine ⟨.inr fun gn gd => ?_⟩
  replace h := h.gap gn gd
  generalize Gap.wgap w gn gd = w at h
  have hsz : (bs l).size = l.length := bs_size l
  refine ⟨_, _, bytes_loud hs hd he, ?_⟩
  have hge := grownCap_ge w (bs l).size 0 e
  rw [hsz] at hge ⊢
  generalize grownCap w l.length 0 e = cap at hge ⊢
  have hnew : ∀ o : Obj, (w.drew.alloc o).heap[w.heap.size]? = some o := fun o => by
    show (w.heap.push _)[w.heap.size]? = _
    rw [Array.getElem?_push, if_pos rfl]
  have hx : ∀ o : Obj, Ext No w (w.drew.alloc o) := fun o => ⟨rfl, rfl, rfl, by show w.heap.size ≤ (w.heap.push _).size; rw [Array.size_push]; omega, fun k hk _ => by
    show (w.heap.push _)[k]? = _
    rw [Array.getElem?_push, if_neg (by omega)]⟩
  refine hk _ _ _ h.ext.size hge (h.made (hx _) (rowU_local _ _) (fun i v hv => ?_) fun d hd => ?_)
  · rw [flatU] at hv
    unfold World.cell?
    simp only [Nat.zero_add]
    rw [hnew]
    have hlt := (List.getElem?_eq_some_iff.1 hv).1
    rw [List.length_map] at hlt
    rw [List.getElem?_map, List.getElem?_eq_getElem hlt] at hv
    simp only [bytesRow, Option.map_some, Option.some.injEq] at hv ⊢
    rw [← hv]
    rw [Array.getElem?_append_left (by simp [bs]; omega)]
    simp [bs, hlt]
  · obtain rfl : d = w.heap.size := by simpa [rowU] using hd
    exact ⟨Nat.le_refl _, by show w.heap.size < (w.heap.push _).size; rw [Array.size_push]; omega⟩
end
end Go.Proofs.YtgcbcagaibecbaaGreatDoor

namespace Go.Proofs.YtgcbcagaibecbaaGreatDoor
set_option maxRecDepth 20000
open Go Ev Gap
variable [Go.Proofs.YtgcbcagaibecbaaGreatDoor.Gap.Leaps]

theorem wrapD (x : UInt8) : IntKind.u8.wrap ((x.toNat : Int) - 48) = if 48 ≤ x.toNat then ((x.toNat - 48 : Nat) : Int) else ((x.toNat + 208 : Nat) : Int) := by
  have := x.toNat_lt
  rw [IntKind.wrap_u8']
  split <;> omega
theorem dec_none_at : ∀ (l : List UInt8) (acc k : Nat) (x : UInt8), l[k]? = some x → Lib.digitVal x = none → Lib.decFrom acc l = none
  | [], _, _, _, h, _ => by simp at h
  | a :: t, acc, 0, x, h, hx => by
    simp only [List.getElem?_cons_zero, Option.some.injEq] at h
    subst h
    simp [Lib.decFrom, hx]
  | a :: t, acc, k + 1, x, h, hx => by
    simp only [List.getElem?_cons_succ] at h
    simp only [Lib.decFrom]
    split
    · exact dec_none_at t _ k x h hx
    · rfl
theorem fast_plain (b0 : UInt8) (r : List UInt8) (h2 : r.length + 1 < 19) (h43 : b0 ≠ 43) (h45 : b0 ≠ 45) (w : World) :
    CallC Tryz.prog 83 #[.string (bs (b0 :: r))] w fun v w' => ((∃ m : Nat, Lib.decFrom 0 (b0 :: r) = some m ∧ v = .tuple #[.int .i64 (m : Int), .nilIface]) ∨ (Lib.decFrom 0 (b0 :: r) = none ∧ v = .tuple #[.int .i64 0, .iface 160 (.int .i64 2)])) ∧ Ext No w w' := by
  have hS := St.start w No
  have hsz : (((bs (b0 :: r)).size : Nat) : Int) = ((r.length + 1 : Nat) : Int) := by rw [bs_size]; rfl
  refine fn_intro tabOk Tryz.func83 (by kernel_rfl) rfl Tryz.ntmps83 (Nat.le_of_ble_eq_true rfl) ?_
  (conv => whnf)
  have e1 : decide (0 < (((bs (b0 :: r)).size : Nat) : Int)) = true := decide_eq_true (by omega)
  have e2 : decide ((((bs (b0 :: r)).size : Nat) : Int) < 19) = true := decide_eq_true (by omega)
  rw [e1]
  (conv => whnf)
  rw [e2]
  (conv => whnf)
  refine idxS (j := 0) Tryz.underlying9 rfl (x := b0) rfl ?_
  (conv => whnf)
  refine eqC ?_
  have n45 : (((b0.toNat : Nat) : Int) == 45) = false := by
    simp only [beq_eq_false_iff_ne, ne_eq]
    intro h
    exact h45 (UInt8.toNat_inj.1 (by show b0.toNat = 45; omega))
  have n43 : (((b0.toNat : Nat) : Int) == 43) = false := by
    simp only [beq_eq_false_iff_ne, ne_eq]
    intro h
    exact h43 (UInt8.toNat_inj.1 (by show b0.toNat = 43; omega))
  rw [n45]
  (conv => whnf)
  refine idxS (j := 0) Tryz.underlying9 rfl (x := b0) rfl ?_
  (conv => whnf)
  refine eqC ?_
  rw [n43]
  (conv => whnf)
  refine bytesC hS Tryz.underlying9 Tryz.underlying153 Tryz.underlying5 (fun b cap w2 hb hcap hS => ?_)
  (conv => whnf)
  refine loopR tabOk (fun σ w' q => ∃ k m : Nat, σ = [(49, .int .i64 ((k : Nat) : Int)), (48, .int .i64 (((b0 :: r).length : Nat) : Int)), (47, .slice (some ⟨b, 0, none⟩) (b0 :: r).length cap), (6, .int .i64 ((m : Nat) : Int)), (5, .string (bs (b0 :: r)))] ∧ q = (b0 :: r).length - k ∧ k ≤ (b0 :: r).length ∧ Lib.decFrom 0 ((b0 :: r).take k) = some m ∧ St w No w' [rowU b (b0 :: r)])
    (σ' := [(49, .int .i64 ((0 : Nat) : Int)), (48, .int .i64 (((b0 :: r).length : Nat) : Int)), (47, .slice (some ⟨b, 0, none⟩) (b0 :: r).length cap), (6, .int .i64 ((0 : Nat) : Int)), (5, .string (bs (b0 :: r)))]) (n := (b0 :: r).length) ⟨rfl, rfl, rfl, rfl, rfl, trivial⟩ ⟨0, 0, rfl, rfl, Nat.zero_le _, rfl, hS⟩ ?_
  clear hS
  rintro _ w3 q ⟨k, m, rfl, rfl, hk, hm, hS⟩
  have hlt := Lib.decFrom_lt _ _ _ hm
  have hdl : (b0 :: r).length ≤ 18 := by first | omega | (simp only [List.length_cons]; omega)
  (conv => whnf)
  refine brD (fun h3 => ?_) (fun h3 => ?_)
  · obtain ⟨x, hx⟩ : ∃ x, (b0 :: r)[k]? = some x := ⟨_, List.getElem?_eq_getElem (by omega)⟩
    have hxl := x.toNat_lt
    have hp : 10 ^ ((b0 :: r).take k).length ≤ 10 ^ 17 := Nat.pow_le_pow_right (by decide) (by rw [List.length_take]; omega)
    have hm17 : m < 100000000000000000 := by
      have e17 : (10 : Nat) ^ 17 = 100000000000000000 := by decide
      omega
    (conv => whnf)
    refine IdxC.mk (by omega) (by omega) ?_
    (conv => whnf)
    have hcell : w3.cell? ⟨b, 0 + k, none⟩ = some (.int .u8 (x.toNat : Int)) := (hS.get 0 rfl : CellsAt w3 b 0 ((b0 :: r).flatMap encU)) k _ (by rw [flatU, List.getElem?_map, hx]; rfl)
    refine ldc (v := .int .u8 (x.toNat : Int)) (by simpa using hcell) ?_
    (conv => whnf)
    refine arC (.inr (.inl rfl)) (wrapD x) ?_
    (conv => whnf)
    refine gtC ?_
    by_cases hd : 48 ≤ x.toNat ∧ x.toNat ≤ 57
    · rw [if_pos hd.1]
      have hdv : Lib.digitVal x = some (x.toNat - 48) := by unfold Lib.digitVal; rw [if_pos hd]
      rw [show decide ((((x.toNat - 48 : Nat)) : Int) > 9) = false from decide_eq_false (by omega)]
      (conv => whnf)
      refine RngC.mk (by omega) (by omega) ?_
      (conv => whnf)
      refine convI (kd := .i64) (m := ((x.toNat - 48 : Nat) : Int)) (by kernel_rfl) Tryz.underlying3 (by rw [IntKind.wrap_i64]; omega) ?_
      (conv => whnf)
      refine RngC.mk (by omega) (by omega) ?_
      (conv => whnf)
      refine RngC.mk (by omega) (by omega) ?_
      (conv => whnf)
      have hst := Lib.decFrom_take (b0 :: r) k 0 m x _ hm hx hdv
      rw [show ((m : Nat) : Int) * 10 + (((x.toNat - 48 : Nat)) : Int) = ((m * 10 + (x.toNat - 48) : Nat) : Int) by omega]
      refine LoopE.mk ⟨_, [(49, .int .i64 ((k + 1 : Nat) : Int)), (48, _), (47, _), (6, _), (5, _)], ?_, ⟨rfl, rfl, rfl, rfl, rfl, trivial⟩, ⟨k + 1, _, rfl, rfl, by omega, hst, hS⟩⟩
      omega
    · have hdn : Lib.digitVal x = none := by unfold Lib.digitVal; rw [if_neg hd]
      have hnone := dec_none_at (b0 :: r) 0 k x hx hdn
      have e5 : decide ((if 48 ≤ x.toNat then ((x.toNat - 48 : Nat) : Int) else ((x.toNat + 208 : Nat) : Int)) > 9) = true := decide_eq_true (by split <;> omega)
      rw [e5]
      repeat' ((conv => whnf); first | refine RetC.mk ?_ | refine NzC.mk (by decide) ?_ | refine RngC.mk (by omega) (by omega) ?_ | refine IdxC.mk (by omega) (by omega) ?_ | refine brD (fun _ => ?_) (fun _ => ?_) | refine brND (fun _ => ?_) (fun _ => ?_) | refine brN (fun _ => ?_) (fun _ => ?_) | refine brI (fun _ => ?_) (fun _ => ?_))
      exact ⟨.inr ⟨hnone, rfl⟩, hS.ext⟩
  · have hkk : k = (b0 :: r).length := by omega
    rw [hkk, List.take_length] at hm
    (conv => whnf)
    refine idxS (j := 0) Tryz.underlying9 rfl (x := b0) rfl ?_
    (conv => whnf)
    refine eqC ?_
    rw [n45]
    repeat' ((conv => whnf); first | refine RetC.mk ?_ | refine NzC.mk (by decide) ?_ | refine RngC.mk (by omega) (by omega) ?_ | refine IdxC.mk (by omega) (by omega) ?_ | refine brD (fun _ => ?_) (fun _ => ?_) | refine brND (fun _ => ?_) (fun _ => ?_) | refine brN (fun _ => ?_) (fun _ => ?_) | refine brI (fun _ => ?_) (fun _ => ?_))
    exact ⟨.inl ⟨m, hm, rfl⟩, hS.ext⟩
theorem fast_minus (r : List UInt8) (h2 : r.length + 1 < 19) (w : World) :
    CallC Tryz.prog 83 #[.string (bs (45 :: r))] w fun v w' => ((∃ m : Nat, Lib.decFrom 0 r = some m ∧ r ≠ [] ∧ v = .tuple #[.int .i64 (-(m : Int)), .nilIface]) ∨ ((r = [] ∨ Lib.decFrom 0 r = none) ∧ v = .tuple #[.int .i64 0, .iface 160 (.int .i64 2)])) ∧ Ext No w w' := by
  have hS := St.start w No
  have hsz : (((bs (45 :: r)).size : Nat) : Int) = ((r.length + 1 : Nat) : Int) := by rw [bs_size]; rfl
  refine fn_intro tabOk Tryz.func83 (by kernel_rfl) rfl Tryz.ntmps83 (Nat.le_of_ble_eq_true rfl) ?_
  (conv => whnf)
  have e1 : decide (0 < (((bs (45 :: r)).size : Nat) : Int)) = true := decide_eq_true (by omega)
  have e2 : decide ((((bs (45 :: r)).size : Nat) : Int) < 19) = true := decide_eq_true (by omega)
  rw [e1]
  (conv => whnf)
  rw [e2]
  (conv => whnf)
  refine idxS (j := 0) Tryz.underlying9 rfl (x := 45) rfl ?_
  (conv => whnf)
  refine eqC ?_
  (conv => whnf)
  refine slcFrom (r := r) Tryz.underlying9 (b := 1) rfl (by simp) rfl ?_
  (conv => whnf)
  have e4 : decide ((((bs r).size : Nat) : Int) < 1) = decide (r = []) := by
    rw [bs_size]
    cases r with
    | nil => rfl
    | cons a t => simp; omega
  rw [e4]
  refine brD (fun h => ?_) (fun h => ?_)
  · repeat' ((conv => whnf); first | refine RetC.mk ?_ | refine NzC.mk (by decide) ?_ | refine RngC.mk (by omega) (by omega) ?_ | refine IdxC.mk (by omega) (by omega) ?_ | refine brD (fun _ => ?_) (fun _ => ?_) | refine brND (fun _ => ?_) (fun _ => ?_) | refine brN (fun _ => ?_) (fun _ => ?_) | refine brI (fun _ => ?_) (fun _ => ?_))
    exact ⟨.inr ⟨.inl h, rfl⟩, hS.ext⟩
  have hne := h
  (conv => whnf)
  refine bytesC hS Tryz.underlying9 Tryz.underlying153 Tryz.underlying5 (fun b cap w2 hb hcap hS => ?_)
  (conv => whnf)
  refine loopR tabOk (fun σ w' q => ∃ k m : Nat, σ = [(49, .int .i64 ((k : Nat) : Int)), (48, .int .i64 ((r.length : Nat) : Int)), (47, .slice (some ⟨b, 0, none⟩) r.length cap), (6, .int .i64 ((m : Nat) : Int)), (5, .string (bs (45 :: r)))] ∧ q = r.length - k ∧ k ≤ r.length ∧ Lib.decFrom 0 (r.take k) = some m ∧ St w No w' [rowU b r])
    (σ' := [(49, .int .i64 ((0 : Nat) : Int)), (48, .int .i64 ((r.length : Nat) : Int)), (47, .slice (some ⟨b, 0, none⟩) r.length cap), (6, .int .i64 ((0 : Nat) : Int)), (5, .string (bs (45 :: r)))]) (n := r.length) ⟨rfl, rfl, rfl, rfl, rfl, trivial⟩ ⟨0, 0, rfl, rfl, Nat.zero_le _, rfl, hS⟩ ?_
  clear hS
  rintro _ w3 q ⟨k, m, rfl, rfl, hk, hm, hS⟩
  have hlt := Lib.decFrom_lt _ _ _ hm
  have hdl : r.length ≤ 18 := by first | omega | (simp only [List.length_cons]; omega)
  (conv => whnf)
  refine brD (fun h3 => ?_) (fun h3 => ?_)
  · obtain ⟨x, hx⟩ : ∃ x, r[k]? = some x := ⟨_, List.getElem?_eq_getElem (by omega)⟩
    have hxl := x.toNat_lt
    have hp : 10 ^ (r.take k).length ≤ 10 ^ 17 := Nat.pow_le_pow_right (by decide) (by rw [List.length_take]; omega)
    have hm17 : m < 100000000000000000 := by
      have e17 : (10 : Nat) ^ 17 = 100000000000000000 := by decide
      omega
    (conv => whnf)
    refine IdxC.mk (by omega) (by omega) ?_
    (conv => whnf)
    have hcell : w3.cell? ⟨b, 0 + k, none⟩ = some (.int .u8 (x.toNat : Int)) := (hS.get 0 rfl : CellsAt w3 b 0 (r.flatMap encU)) k _ (by rw [flatU, List.getElem?_map, hx]; rfl)
    refine ldc (v := .int .u8 (x.toNat : Int)) (by simpa using hcell) ?_
    (conv => whnf)
    refine arC (.inr (.inl rfl)) (wrapD x) ?_
    (conv => whnf)
    refine gtC ?_
    by_cases hd : 48 ≤ x.toNat ∧ x.toNat ≤ 57
    · rw [if_pos hd.1]
      have hdv : Lib.digitVal x = some (x.toNat - 48) := by unfold Lib.digitVal; rw [if_pos hd]
      rw [show decide ((((x.toNat - 48 : Nat)) : Int) > 9) = false from decide_eq_false (by omega)]
      (conv => whnf)
      refine RngC.mk (by omega) (by omega) ?_
      (conv => whnf)
      refine convI (kd := .i64) (m := ((x.toNat - 48 : Nat) : Int)) (by kernel_rfl) Tryz.underlying3 (by rw [IntKind.wrap_i64]; omega) ?_
      (conv => whnf)
      refine RngC.mk (by omega) (by omega) ?_
      (conv => whnf)
      refine RngC.mk (by omega) (by omega) ?_
      (conv => whnf)
      have hst := Lib.decFrom_take r k 0 m x _ hm hx hdv
      rw [show ((m : Nat) : Int) * 10 + (((x.toNat - 48 : Nat)) : Int) = ((m * 10 + (x.toNat - 48) : Nat) : Int) by omega]
      refine LoopE.mk ⟨_, [(49, .int .i64 ((k + 1 : Nat) : Int)), (48, _), (47, _), (6, _), (5, _)], ?_, ⟨rfl, rfl, rfl, rfl, rfl, trivial⟩, ⟨k + 1, _, rfl, rfl, by omega, hst, hS⟩⟩
      omega
    · have hdn : Lib.digitVal x = none := by unfold Lib.digitVal; rw [if_neg hd]
      have hnone := dec_none_at r 0 k x hx hdn
      have e5 : decide ((if 48 ≤ x.toNat then ((x.toNat - 48 : Nat) : Int) else ((x.toNat + 208 : Nat) : Int)) > 9) = true := decide_eq_true (by split <;> omega)
      rw [e5]
      repeat' ((conv => whnf); first | refine RetC.mk ?_ | refine NzC.mk (by decide) ?_ | refine RngC.mk (by omega) (by omega) ?_ | refine IdxC.mk (by omega) (by omega) ?_ | refine brD (fun _ => ?_) (fun _ => ?_) | refine brND (fun _ => ?_) (fun _ => ?_) | refine brN (fun _ => ?_) (fun _ => ?_) | refine brI (fun _ => ?_) (fun _ => ?_))
      exact ⟨.inr ⟨.inr hnone, rfl⟩, hS.ext⟩
  · have hkk : k = r.length := by omega
    rw [hkk, List.take_length] at hm
    have hp2 : 10 ^ r.length ≤ 10 ^ 18 := Nat.pow_le_pow_right (by decide) hdl
    have hlt2 := Lib.decFrom_lt _ _ _ hm
    have hm18 : m < 1000000000000000000 := by
      have e18 : (10 : Nat) ^ 18 = 1000000000000000000 := by decide
      omega
    (conv => whnf)
    refine idxS (j := 0) Tryz.underlying9 rfl (x := 45) rfl ?_
    (conv => whnf)
    refine eqC ?_
    (conv => whnf)
    refine negI (m := -(m : Int)) (by rw [IntKind.wrap_i64]; omega) ?_
    repeat' ((conv => whnf); first | refine RetC.mk ?_ | refine NzC.mk (by decide) ?_ | refine RngC.mk (by omega) (by omega) ?_ | refine IdxC.mk (by omega) (by omega) ?_ | refine brD (fun _ => ?_) (fun _ => ?_) | refine brND (fun _ => ?_) (fun _ => ?_) | refine brN (fun _ => ?_) (fun _ => ?_) | refine brI (fun _ => ?_) (fun _ => ?_))
    exact ⟨.inl ⟨m, hm, hne, rfl⟩, hS.ext⟩
theorem fast_plus (r : List UInt8) (h2 : r.length + 1 < 19) (w : World) :
    CallC Tryz.prog 83 #[.string (bs (43 :: r))] w fun v w' => ((∃ m : Nat, Lib.decFrom 0 r = some m ∧ r ≠ [] ∧ v = .tuple #[.int .i64 (m : Int), .nilIface]) ∨ ((r = [] ∨ Lib.decFrom 0 r = none) ∧ v = .tuple #[.int .i64 0, .iface 160 (.int .i64 2)])) ∧ Ext No w w' := by
  have hS := St.start w No
  have hsz : (((bs (43 :: r)).size : Nat) : Int) = ((r.length + 1 : Nat) : Int) := by rw [bs_size]; rfl
  refine fn_intro tabOk Tryz.func83 (by kernel_rfl) rfl Tryz.ntmps83 (Nat.le_of_ble_eq_true rfl) ?_
  (conv => whnf)
  have e1 : decide (0 < (((bs (43 :: r)).size : Nat) : Int)) = true := decide_eq_true (by omega)
  have e2 : decide ((((bs (43 :: r)).size : Nat) : Int) < 19) = true := decide_eq_true (by omega)
  rw [e1]
  (conv => whnf)
  rw [e2]
  (conv => whnf)
  refine idxS (j := 0) Tryz.underlying9 rfl (x := 43) rfl ?_
  (conv => whnf)
  refine eqC ?_
  (conv => whnf)
  refine idxS (j := 0) Tryz.underlying9 rfl (x := 43) rfl ?_
  (conv => whnf)
  refine eqC ?_
  (conv => whnf)
  refine slcFrom (r := r) Tryz.underlying9 (b := 1) rfl (by simp) rfl ?_
  (conv => whnf)
  have e4 : decide ((((bs r).size : Nat) : Int) < 1) = decide (r = []) := by
    rw [bs_size]
    cases r with
    | nil => rfl
    | cons a t => simp; omega
  rw [e4]
  refine brD (fun h => ?_) (fun h => ?_)
  · repeat' ((conv => whnf); first | refine RetC.mk ?_ | refine NzC.mk (by decide) ?_ | refine RngC.mk (by omega) (by omega) ?_ | refine IdxC.mk (by omega) (by omega) ?_ | refine brD (fun _ => ?_) (fun _ => ?_) | refine brND (fun _ => ?_) (fun _ => ?_) | refine brN (fun _ => ?_) (fun _ => ?_) | refine brI (fun _ => ?_) (fun _ => ?_))
    exact ⟨.inr ⟨.inl h, rfl⟩, hS.ext⟩
  have hne := h
  (conv => whnf)
  refine bytesC hS Tryz.underlying9 Tryz.underlying153 Tryz.underlying5 (fun b cap w2 hb hcap hS => ?_)
  (conv => whnf)
  refine loopR tabOk (fun σ w' q => ∃ k m : Nat, σ = [(49, .int .i64 ((k : Nat) : Int)), (48, .int .i64 ((r.length : Nat) : Int)), (47, .slice (some ⟨b, 0, none⟩) r.length cap), (6, .int .i64 ((m : Nat) : Int)), (5, .string (bs (43 :: r)))] ∧ q = r.length - k ∧ k ≤ r.length ∧ Lib.decFrom 0 (r.take k) = some m ∧ St w No w' [rowU b r])
    (σ' := [(49, .int .i64 ((0 : Nat) : Int)), (48, .int .i64 ((r.length : Nat) : Int)), (47, .slice (some ⟨b, 0, none⟩) r.length cap), (6, .int .i64 ((0 : Nat) : Int)), (5, .string (bs (43 :: r)))]) (n := r.length) ⟨rfl, rfl, rfl, rfl, rfl, trivial⟩ ⟨0, 0, rfl, rfl, Nat.zero_le _, rfl, hS⟩ ?_
  clear hS
  rintro _ w3 q ⟨k, m, rfl, rfl, hk, hm, hS⟩
  have hlt := Lib.decFrom_lt _ _ _ hm
  have hdl : r.length ≤ 18 := by first | omega | (simp only [List.length_cons]; omega)
  (conv => whnf)
  refine brD (fun h3 => ?_) (fun h3 => ?_)
  · obtain ⟨x, hx⟩ : ∃ x, r[k]? = some x := ⟨_, List.getElem?_eq_getElem (by omega)⟩
    have hxl := x.toNat_lt
    have hp : 10 ^ (r.take k).length ≤ 10 ^ 17 := Nat.pow_le_pow_right (by decide) (by rw [List.length_take]; omega)
    have hm17 : m < 100000000000000000 := by
      have e17 : (10 : Nat) ^ 17 = 100000000000000000 := by decide
      omega
    (conv => whnf)
    refine IdxC.mk (by omega) (by omega) ?_
    (conv => whnf)
    have hcell : w3.cell? ⟨b, 0 + k, none⟩ = some (.int .u8 (x.toNat : Int)) := (hS.get 0 rfl : CellsAt w3 b 0 (r.flatMap encU)) k _ (by rw [flatU, List.getElem?_map, hx]; rfl)
    refine ldc (v := .int .u8 (x.toNat : Int)) (by simpa using hcell) ?_
    (conv => whnf)
    refine arC (.inr (.inl rfl)) (wrapD x) ?_
    (conv => whnf)
    refine gtC ?_
    by_cases hd : 48 ≤ x.toNat ∧ x.toNat ≤ 57
    · rw [if_pos hd.1]
      have hdv : Lib.digitVal x = some (x.toNat - 48) := by unfold Lib.digitVal; rw [if_pos hd]
      rw [show decide ((((x.toNat - 48 : Nat)) : Int) > 9) = false from decide_eq_false (by omega)]
      (conv => whnf)
      refine RngC.mk (by omega) (by omega) ?_
      (conv => whnf)
      refine convI (kd := .i64) (m := ((x.toNat - 48 : Nat) : Int)) (by kernel_rfl) Tryz.underlying3 (by rw [IntKind.wrap_i64]; omega) ?_
      (conv => whnf)
      refine RngC.mk (by omega) (by omega) ?_
      (conv => whnf)
      refine RngC.mk (by omega) (by omega) ?_
      (conv => whnf)
      have hst := Lib.decFrom_take r k 0 m x _ hm hx hdv
      rw [show ((m : Nat) : Int) * 10 + (((x.toNat - 48 : Nat)) : Int) = ((m * 10 + (x.toNat - 48) : Nat) : Int) by omega]
      refine LoopE.mk ⟨_, [(49, .int .i64 ((k + 1 : Nat) : Int)), (48, _), (47, _), (6, _), (5, _)], ?_, ⟨rfl, rfl, rfl, rfl, rfl, trivial⟩, ⟨k + 1, _, rfl, rfl, by omega, hst, hS⟩⟩
      omega
    · have hdn : Lib.digitVal x = none := by unfold Lib.digitVal; rw [if_neg hd]
      have hnone := dec_none_at r 0 k x hx hdn
      have e5 : decide ((if 48 ≤ x.toNat then ((x.toNat - 48 : Nat) : Int) else ((x.toNat + 208 : Nat) : Int)) > 9) = true := decide_eq_true (by split <;> omega)
      rw [e5]
      repeat' ((conv => whnf); first | refine RetC.mk ?_ | refine NzC.mk (by decide) ?_ | refine RngC.mk (by omega) (by omega) ?_ | refine IdxC.mk (by omega) (by omega) ?_ | refine brD (fun _ => ?_) (fun _ => ?_) | refine brND (fun _ => ?_) (fun _ => ?_) | refine brN (fun _ => ?_) (fun _ => ?_) | refine brI (fun _ => ?_) (fun _ => ?_))
      exact ⟨.inr ⟨.inr hnone, rfl⟩, hS.ext⟩
  · have hkk : k = r.length := by omega
    rw [hkk, List.take_length] at hm
    (conv => whnf)
    refine idxS (j := 0) Tryz.underlying9 rfl (x := 43) rfl ?_
    (conv => whnf)
    refine eqC ?_
    repeat' ((conv => whnf); first | refine RetC.mk ?_ | refine NzC.mk (by decide) ?_ | refine RngC.mk (by omega) (by omega) ?_ | refine IdxC.mk (by omega) (by omega) ?_ | refine brD (fun _ => ?_) (fun _ => ?_) | refine brND (fun _ => ?_) (fun _ => ?_) | refine brN (fun _ => ?_) (fun _ => ?_) | refine brI (fun _ => ?_) (fun _ => ?_))
    exact ⟨.inl ⟨m, hm, hne, rfl⟩, hS.ext⟩
end Go.Proofs.YtgcbcagaibecbaaGreatDoor

namespace Go.Proofs.YtgcbcagaibecbaaGreatDoor
set_option maxRecDepth 20000
open Go Ev Gap
variable [Go.Proofs.YtgcbcagaibecbaaGreatDoor.Gap.Leaps]

def NumE (e : Value) : Prop := e = .iface 160 (.int .i64 1) ∨ e = .iface 160 (.int .i64 2)
theorem leC {P : Program} {k : Value → Prop} {t : TypeId} {kd : IntKind} {a b : Int} (hk : k (.bool (decide (a ≤ b)))) : PureC P (Go.binOp .leq t (.int kd a) (.int kd b)) k :=
  PureC.of (fun w => by simp [Go.binOp, Op.intCmp]) hk
theorem ltC {P : Program} {k : Value → Prop} {t : TypeId} {kd : IntKind} {a b : Int} (hk : k (.bool (decide (a < b)))) : PureC P (Go.binOp .lss t (.int kd a) (.int kd b)) k :=
  PureC.of (fun w => by simp [Go.binOp, Op.intCmp]) hk
theorem lower_ok (x : Nat) (hx : x < 256) (w : World) : CallC Tryz.prog 116 #[.int .u8 (x : Int)] w fun v w' => (∃ y : Nat, y < 256 ∧ v = .int .u8 (y : Int)) ∧ w = w' := by
  have hy : (BitVec.ofInt 8 (x : Int) ||| BitVec.ofInt 8 32).toNat < 256 := (BitVec.ofInt 8 (x : Int) ||| BitVec.ofInt 8 32).isLt
  refine fn_intro tabOk Tryz.func116 (by kernel_rfl) rfl Tryz.ntmps116 (Nat.le_of_ble_eq_true rfl) ?_
  (conv => whnf)
  refine bitsC (r := ((BitVec.ofInt 8 (x : Int) ||| BitVec.ofInt 8 32).toNat : Int)) (.inr (.inl rfl)) (fun w => ?_) ?_
  · show (pure (Value.int .u8 (IntKind.u8.wrap ((BitVec.ofInt 8 (x : Int) ||| BitVec.ofInt 8 32).toNat : Int))) : Sem Value).run Tryz.prog w = _
    rw [IntKind.wrap_u8', show (((BitVec.ofInt 8 (x : Int) ||| BitVec.ofInt 8 32).toNat : Nat) : Int) % 256 = ((BitVec.ofInt 8 (x : Int) ||| BitVec.ofInt 8 32).toNat : Int) by omega]
    rfl
  · repeat' ((conv => whnf); first | refine RetC.mk ?_ | refine NzC.mk (by decide) ?_ | refine RngC.mk (by omega) (by omega) ?_ | refine IdxC.mk (by omega) (by omega) ?_ | refine brD (fun _ => ?_) (fun _ => ?_) | refine brND (fun _ => ?_) (fun _ => ?_) | refine brN (fun _ => ?_) (fun _ => ?_) | refine brI (fun _ => ?_) (fun _ => ?_))
    exact ⟨⟨_, hy, rfl⟩, rfl⟩
theorem parseUint_ok (l : List UInt8) (h0 : l ≠ []) (hl : l.length ≤ 100000) (w : World) : CallC Tryz.prog 107 #[.string (bs l), .int .i64 10, .int .i64 0] w fun v w' => (∃ (u : Nat) (e : Value), u < 18446744073709551616 ∧ (e = .nilIface ∨ NumE e) ∧ v = .tuple #[.int .u64 (u : Int), e]) ∧ Ext No w w' := by
  have hS := St.start w No
  refine fn_intro tabOk Tryz.func107 (by kernel_rfl) rfl Tryz.ntmps107 (Nat.le_of_ble_eq_true rfl) ?_
  (conv => whnf)
  refine eqS2 ?_
  rw [decide_eq_false h0]
  (conv => whnf)
  refine convI (kd := .u64) (m := 64) (by kernel_rfl) Tryz.underlying105 (by rw [IntKind.wrap_u64]; omega) ?_
  (conv => whnf)
  refine shlC (n := 64) (m := 0) rfl (by decide) (by rw [IntKind.wrap_u64]; decide) ?_
  (conv => whnf)
  refine arC (m := 18446744073709551615) (.inr (.inl rfl)) (by rw [IntKind.wrap_u64]; decide) ?_
  (conv => whnf)
  refine bytesC hS Tryz.underlying9 Tryz.underlying153 Tryz.underlying5 (fun b cap w2 hb hcap hS => ?_)
  (conv => whnf)
  refine loopR tabOk (fun σ w' q => ∃ k m : Nat, σ = [(101, .int .i64 ((k : Nat) : Int)), (100, .int .i64 ((l.length : Nat) : Int)), (99, .slice (some ⟨b, 0, none⟩) l.length cap), (13, .int .u64 ((m : Nat) : Int)), (12, .bool false), (11, .int .u64 18446744073709551615), (10, .int .u64 1844674407370955162), (9, .string (bs l)), (8, .bool (10 == 0)), (1, .int .i64 10)] ∧ q = l.length - k ∧ k ≤ l.length ∧ m < 18446744073709551616 ∧ St w No w' [rowU b l])
    (σ' := [(101, .int .i64 ((0 : Nat) : Int)), (100, .int .i64 ((l.length : Nat) : Int)), (99, .slice (some ⟨b, 0, none⟩) l.length cap), (13, .int .u64 ((0 : Nat) : Int)), (12, .bool false), (11, .int .u64 18446744073709551615), (10, .int .u64 1844674407370955162), (9, .string (bs l)), (8, .bool (10 == 0)), (1, .int .i64 10)]) (n := l.length) ⟨rfl, rfl, rfl, rfl, rfl, rfl, rfl, rfl, rfl, rfl, trivial⟩ ⟨0, 0, rfl, rfl, Nat.zero_le _, by decide, hS⟩ ?_
  clear hS
  rintro _ w3 q ⟨k, m, rfl, rfl, hk, hm, hS⟩
  (conv => whnf)
  refine brD (fun h3 => ?_) (fun h3 => ?_)
  · obtain ⟨x, hx⟩ : ∃ x, l[k]? = some x := ⟨_, List.getElem?_eq_getElem (by omega)⟩
    have hxl := x.toNat_lt
    (conv => whnf)
    refine IdxC.mk (by omega) (by omega) ?_
    (conv => whnf)
    have hcell : w3.cell? ⟨b, 0 + k, none⟩ = some (.int .u8 (x.toNat : Int)) := (hS.get 0 rfl : CellsAt w3 b 0 (l.flatMap encU)) k _ (by rw [flatU, List.getElem?_map, hx]; rfl)
    refine ldc (v := .int .u8 (x.toNat : Int)) (by simpa using hcell) ?_
    (conv => whnf)
    refine eqC ?_
    generalize (((x.toNat : Nat) : Int) == 95) = c95
    cases c95
    · (conv => whnf)
      refine leC ?_
      by_cases a1 : 48 ≤ x.toNat
      · rw [decide_eq_true (show (48 : Int) ≤ ((x.toNat : Nat) : Int) by omega)]
        (conv => whnf)
        refine leC ?_
        by_cases a2 : x.toNat ≤ 57
        · rw [decide_eq_true (show ((x.toNat : Nat) : Int) ≤ 57 by omega)]
          (conv => whnf)
          refine arC (op := .sub) (a := ((x.toNat : Nat) : Int)) (b := 48) (m := ((x.toNat - 48 : Nat) : Int)) (.inr (.inl rfl)) (by show IntKind.u8.wrap (_ - _) = _; rw [IntKind.wrap_u8']; omega) ?_
          (conv => whnf)
          refine convI (kd := .u8) (m := 10) (by kernel_rfl) Tryz.underlying5 (by rw [IntKind.wrap_u8']; omega) ?_
          (conv => whnf)
          refine geC ?_
          by_cases b1 : 10 ≤ (x.toNat - 48)
          · rw [decide_eq_true (show (((x.toNat - 48) : Nat) : Int) ≥ 10 by omega)]
            repeat' ((conv => whnf); first | refine RetC.mk ?_ | refine NzC.mk (by decide) ?_ | refine RngC.mk (by omega) (by omega) ?_ | refine IdxC.mk (by omega) (by omega) ?_ | refine brD (fun _ => ?_) (fun _ => ?_) | refine brND (fun _ => ?_) (fun _ => ?_) | refine brN (fun _ => ?_) (fun _ => ?_) | refine brI (fun _ => ?_) (fun _ => ?_))
            exact ⟨⟨0, _, by decide, .inr (.inr rfl), rfl⟩, hS.ext⟩
          rw [decide_eq_false (show ¬ (((x.toNat - 48) : Nat) : Int) ≥ 10 by omega)]
          (conv => whnf)
          refine geC ?_
          by_cases b2 : 1844674407370955162 ≤ m
          · rw [decide_eq_true (show ((m : Nat) : Int) ≥ 1844674407370955162 by omega)]
            repeat' ((conv => whnf); first | refine RetC.mk ?_ | refine NzC.mk (by decide) ?_ | refine RngC.mk (by omega) (by omega) ?_ | refine IdxC.mk (by omega) (by omega) ?_ | refine brD (fun _ => ?_) (fun _ => ?_) | refine brND (fun _ => ?_) (fun _ => ?_) | refine brN (fun _ => ?_) (fun _ => ?_) | refine brI (fun _ => ?_) (fun _ => ?_))
            exact ⟨⟨18446744073709551615, _, by decide, .inr (.inl rfl), rfl⟩, hS.ext⟩
          rw [decide_eq_false (show ¬ ((m : Nat) : Int) ≥ 1844674407370955162 by omega)]
          (conv => whnf)
          refine convI (kd := .u64) (m := 10) (by kernel_rfl) Tryz.underlying69 (by rw [IntKind.wrap_u64]; omega) ?_
          (conv => whnf)
          refine mulN (a := m) (b := 10) rfl rfl (by rw [IntKind.wrap_u64]; omega) ?_
          (conv => whnf)
          refine convI (kd := .u64) (m := (((x.toNat - 48) : Nat) : Int)) (by kernel_rfl) Tryz.underlying69 (by rw [IntKind.wrap_u64]; omega) ?_
          (conv => whnf)
          refine arC (op := .add) (a := ((m * 10 : Nat) : Int)) (b := (((x.toNat - 48) : Nat) : Int)) (m := (((m * 10 + (x.toNat - 48)) % 18446744073709551616 : Nat) : Int)) (.inl rfl) (by show IntKind.u64.wrap (_ + _) = _; rw [IntKind.wrap_u64]; omega) ?_
          (conv => whnf)
          refine ltC ?_
          by_cases b3 : (m * 10 + (x.toNat - 48)) % 18446744073709551616 < m * 10
          · rw [decide_eq_true (show (((m * 10 + (x.toNat - 48)) % 18446744073709551616 : Nat) : Int) < ((m * 10 : Nat) : Int) by omega)]
            repeat' ((conv => whnf); first | refine RetC.mk ?_ | refine NzC.mk (by decide) ?_ | refine RngC.mk (by omega) (by omega) ?_ | refine IdxC.mk (by omega) (by omega) ?_ | refine brD (fun _ => ?_) (fun _ => ?_) | refine brND (fun _ => ?_) (fun _ => ?_) | refine brN (fun _ => ?_) (fun _ => ?_) | refine brI (fun _ => ?_) (fun _ => ?_))
            exact ⟨⟨18446744073709551615, _, by decide, .inr (.inl rfl), rfl⟩, hS.ext⟩
          rw [decide_eq_false (show ¬ (((m * 10 + (x.toNat - 48)) % 18446744073709551616 : Nat) : Int) < ((m * 10 : Nat) : Int) by omega)]
          (conv => whnf)
          refine gtC ?_
          rw [decide_eq_false (show ¬ (((m * 10 + (x.toNat - 48)) % 18446744073709551616 : Nat) : Int) > 18446744073709551615 by omega)]
          (conv => whnf)
          refine RngC.mk (by omega) (by omega) ?_
          (conv => whnf)
          refine LoopE.mk ⟨_, [(101, .int .i64 ((k + 1 : Nat) : Int)), (100, _), (99, _), (13, _), (12, _), (11, _), (10, _), (9, _), (8, _), (1, _)], ?_, ⟨rfl, rfl, rfl, rfl, rfl, rfl, rfl, rfl, rfl, rfl, trivial⟩, ⟨k + 1, _, rfl, rfl, by omega, Nat.mod_lt _ (by decide), hS⟩⟩
          omega
        · rw [decide_eq_false (show ¬ ((x.toNat : Nat) : Int) ≤ 57 by omega)]
          (conv => whnf)
          refine (lower_ok x.toNat hxl _).mono ?_
          rintro v1 w4 ⟨⟨y1, hy1, rfl⟩, rfl⟩
          (conv => whnf)
          refine leC ?_
          by_cases c1 : 97 ≤ y1
          · rw [decide_eq_true (show (97 : Int) ≤ ((y1 : Nat) : Int) by omega)]
            (conv => whnf)
            refine (lower_ok x.toNat hxl _).mono ?_
            rintro v2 w5 ⟨⟨y2, hy2, rfl⟩, rfl⟩
            (conv => whnf)
            refine leC ?_
            by_cases c2 : y2 ≤ 122
            · rw [decide_eq_true (show ((y2 : Nat) : Int) ≤ 122 by omega)]
              (conv => whnf)
              refine (lower_ok x.toNat hxl _).mono ?_
              rintro v3 w6 ⟨⟨y3, hy3, rfl⟩, rfl⟩
              (conv => whnf)
              refine arC (op := .sub) (a := ((y3 : Nat) : Int)) (b := 97) (m := (((y3 + 159) % 256 : Nat) : Int)) (.inr (.inl rfl)) (by show IntKind.u8.wrap (_ - _) = _; rw [IntKind.wrap_u8']; omega) ?_
              (conv => whnf)
              refine arC (op := .add) (a := (((y3 + 159) % 256 : Nat) : Int)) (b := 10) (m := (((y3 + 169) % 256 : Nat) : Int)) (.inl rfl) (by show IntKind.u8.wrap (_ + _) = _; rw [IntKind.wrap_u8']; omega) ?_
              have hd9 : (y3 + 169) % 256 < 256 := Nat.mod_lt _ (by decide)
              generalize (y3 + 169) % 256 = d9 at hd9
              (conv => whnf)
              refine convI (kd := .u8) (m := 10) (by kernel_rfl) Tryz.underlying5 (by rw [IntKind.wrap_u8']; omega) ?_
              (conv => whnf)
              refine geC ?_
              by_cases b1 : 10 ≤ d9
              · rw [decide_eq_true (show ((d9 : Nat) : Int) ≥ 10 by omega)]
                repeat' ((conv => whnf); first | refine RetC.mk ?_ | refine NzC.mk (by decide) ?_ | refine RngC.mk (by omega) (by omega) ?_ | refine IdxC.mk (by omega) (by omega) ?_ | refine brD (fun _ => ?_) (fun _ => ?_) | refine brND (fun _ => ?_) (fun _ => ?_) | refine brN (fun _ => ?_) (fun _ => ?_) | refine brI (fun _ => ?_) (fun _ => ?_))
                exact ⟨⟨0, _, by decide, .inr (.inr rfl), rfl⟩, hS.ext⟩
              rw [decide_eq_false (show ¬ ((d9 : Nat) : Int) ≥ 10 by omega)]
              (conv => whnf)
              refine geC ?_
              by_cases b2 : 1844674407370955162 ≤ m
              · rw [decide_eq_true (show ((m : Nat) : Int) ≥ 1844674407370955162 by omega)]
                repeat' ((conv => whnf); first | refine RetC.mk ?_ | refine NzC.mk (by decide) ?_ | refine RngC.mk (by omega) (by omega) ?_ | refine IdxC.mk (by omega) (by omega) ?_ | refine brD (fun _ => ?_) (fun _ => ?_) | refine brND (fun _ => ?_) (fun _ => ?_) | refine brN (fun _ => ?_) (fun _ => ?_) | refine brI (fun _ => ?_) (fun _ => ?_))
                exact ⟨⟨18446744073709551615, _, by decide, .inr (.inl rfl), rfl⟩, hS.ext⟩
              rw [decide_eq_false (show ¬ ((m : Nat) : Int) ≥ 1844674407370955162 by omega)]
              (conv => whnf)
              refine convI (kd := .u64) (m := 10) (by kernel_rfl) Tryz.underlying69 (by rw [IntKind.wrap_u64]; omega) ?_
              (conv => whnf)
              refine mulN (a := m) (b := 10) rfl rfl (by rw [IntKind.wrap_u64]; omega) ?_
              (conv => whnf)
              refine convI (kd := .u64) (m := ((d9 : Nat) : Int)) (by kernel_rfl) Tryz.underlying69 (by rw [IntKind.wrap_u64]; omega) ?_
              (conv => whnf)
              refine arC (op := .add) (a := ((m * 10 : Nat) : Int)) (b := ((d9 : Nat) : Int)) (m := (((m * 10 + d9) % 18446744073709551616 : Nat) : Int)) (.inl rfl) (by show IntKind.u64.wrap (_ + _) = _; rw [IntKind.wrap_u64]; omega) ?_
              (conv => whnf)
              refine ltC ?_
              by_cases b3 : (m * 10 + d9) % 18446744073709551616 < m * 10
              · rw [decide_eq_true (show (((m * 10 + d9) % 18446744073709551616 : Nat) : Int) < ((m * 10 : Nat) : Int) by omega)]
                repeat' ((conv => whnf); first | refine RetC.mk ?_ | refine NzC.mk (by decide) ?_ | refine RngC.mk (by omega) (by omega) ?_ | refine IdxC.mk (by omega) (by omega) ?_ | refine brD (fun _ => ?_) (fun _ => ?_) | refine brND (fun _ => ?_) (fun _ => ?_) | refine brN (fun _ => ?_) (fun _ => ?_) | refine brI (fun _ => ?_) (fun _ => ?_))
                exact ⟨⟨18446744073709551615, _, by decide, .inr (.inl rfl), rfl⟩, hS.ext⟩
              rw [decide_eq_false (show ¬ (((m * 10 + d9) % 18446744073709551616 : Nat) : Int) < ((m * 10 : Nat) : Int) by omega)]
              (conv => whnf)
              refine gtC ?_
              rw [decide_eq_false (show ¬ (((m * 10 + d9) % 18446744073709551616 : Nat) : Int) > 18446744073709551615 by omega)]
              (conv => whnf)
              refine RngC.mk (by omega) (by omega) ?_
              (conv => whnf)
              refine LoopE.mk ⟨_, [(101, .int .i64 ((k + 1 : Nat) : Int)), (100, _), (99, _), (13, _), (12, _), (11, _), (10, _), (9, _), (8, _), (1, _)], ?_, ⟨rfl, rfl, rfl, rfl, rfl, rfl, rfl, rfl, rfl, rfl, trivial⟩, ⟨k + 1, _, rfl, rfl, by omega, Nat.mod_lt _ (by decide), hS⟩⟩
              omega
            · rw [decide_eq_false (show ¬ ((y2 : Nat) : Int) ≤ 122 by omega)]
              repeat' ((conv => whnf); first | refine RetC.mk ?_ | refine NzC.mk (by decide) ?_ | refine RngC.mk (by omega) (by omega) ?_ | refine IdxC.mk (by omega) (by omega) ?_ | refine brD (fun _ => ?_) (fun _ => ?_) | refine brND (fun _ => ?_) (fun _ => ?_) | refine brN (fun _ => ?_) (fun _ => ?_) | refine brI (fun _ => ?_) (fun _ => ?_))
              exact ⟨⟨0, _, by decide, .inr (.inr rfl), rfl⟩, hS.ext⟩
          · rw [decide_eq_false (show ¬ (97 : Int) ≤ ((y1 : Nat) : Int) by omega)]
            repeat' ((conv => whnf); first | refine RetC.mk ?_ | refine NzC.mk (by decide) ?_ | refine RngC.mk (by omega) (by omega) ?_ | refine IdxC.mk (by omega) (by omega) ?_ | refine brD (fun _ => ?_) (fun _ => ?_) | refine brND (fun _ => ?_) (fun _ => ?_) | refine brN (fun _ => ?_) (fun _ => ?_) | refine brI (fun _ => ?_) (fun _ => ?_))
            exact ⟨⟨0, _, by decide, .inr (.inr rfl), rfl⟩, hS.ext⟩
      · rw [decide_eq_false (show ¬ (48 : Int) ≤ ((x.toNat : Nat) : Int) by omega)]
        (conv => whnf)
        refine (lower_ok x.toNat hxl _).mono ?_
        rintro v1 w4 ⟨⟨y1, hy1, rfl⟩, rfl⟩
        (conv => whnf)
        refine leC ?_
        by_cases c1 : 97 ≤ y1
        · rw [decide_eq_true (show (97 : Int) ≤ ((y1 : Nat) : Int) by omega)]
          (conv => whnf)
          refine (lower_ok x.toNat hxl _).mono ?_
          rintro v2 w5 ⟨⟨y2, hy2, rfl⟩, rfl⟩
          (conv => whnf)
          refine leC ?_
          by_cases c2 : y2 ≤ 122
          · rw [decide_eq_true (show ((y2 : Nat) : Int) ≤ 122 by omega)]
            (conv => whnf)
            refine (lower_ok x.toNat hxl _).mono ?_
            rintro v3 w6 ⟨⟨y3, hy3, rfl⟩, rfl⟩
            (conv => whnf)
            refine arC (op := .sub) (a := ((y3 : Nat) : Int)) (b := 97) (m := (((y3 + 159) % 256 : Nat) : Int)) (.inr (.inl rfl)) (by show IntKind.u8.wrap (_ - _) = _; rw [IntKind.wrap_u8']; omega) ?_
            (conv => whnf)
            refine arC (op := .add) (a := (((y3 + 159) % 256 : Nat) : Int)) (b := 10) (m := (((y3 + 169) % 256 : Nat) : Int)) (.inl rfl) (by show IntKind.u8.wrap (_ + _) = _; rw [IntKind.wrap_u8']; omega) ?_
            have hd9 : (y3 + 169) % 256 < 256 := Nat.mod_lt _ (by decide)
            generalize (y3 + 169) % 256 = d9 at hd9
            (conv => whnf)
            refine convI (kd := .u8) (m := 10) (by kernel_rfl) Tryz.underlying5 (by rw [IntKind.wrap_u8']; omega) ?_
            (conv => whnf)
            refine geC ?_
            by_cases b1 : 10 ≤ d9
            · rw [decide_eq_true (show ((d9 : Nat) : Int) ≥ 10 by omega)]
              repeat' ((conv => whnf); first | refine RetC.mk ?_ | refine NzC.mk (by decide) ?_ | refine RngC.mk (by omega) (by omega) ?_ | refine IdxC.mk (by omega) (by omega) ?_ | refine brD (fun _ => ?_) (fun _ => ?_) | refine brND (fun _ => ?_) (fun _ => ?_) | refine brN (fun _ => ?_) (fun _ => ?_) | refine brI (fun _ => ?_) (fun _ => ?_))
              exact ⟨⟨0, _, by decide, .inr (.inr rfl), rfl⟩, hS.ext⟩
            rw [decide_eq_false (show ¬ ((d9 : Nat) : Int) ≥ 10 by omega)]
            (conv => whnf)
            refine geC ?_
            by_cases b2 : 1844674407370955162 ≤ m
            · rw [decide_eq_true (show ((m : Nat) : Int) ≥ 1844674407370955162 by omega)]
              repeat' ((conv => whnf); first | refine RetC.mk ?_ | refine NzC.mk (by decide) ?_ | refine RngC.mk (by omega) (by omega) ?_ | refine IdxC.mk (by omega) (by omega) ?_ | refine brD (fun _ => ?_) (fun _ => ?_) | refine brND (fun _ => ?_) (fun _ => ?_) | refine brN (fun _ => ?_) (fun _ => ?_) | refine brI (fun _ => ?_) (fun _ => ?_))
              exact ⟨⟨18446744073709551615, _, by decide, .inr (.inl rfl), rfl⟩, hS.ext⟩
            rw [decide_eq_false (show ¬ ((m : Nat) : Int) ≥ 1844674407370955162 by omega)]
            (conv => whnf)
            refine convI (kd := .u64) (m := 10) (by kernel_rfl) Tryz.underlying69 (by rw [IntKind.wrap_u64]; omega) ?_
            (conv => whnf)
            refine mulN (a := m) (b := 10) rfl rfl (by rw [IntKind.wrap_u64]; omega) ?_
            (conv => whnf)
            refine convI (kd := .u64) (m := ((d9 : Nat) : Int)) (by kernel_rfl) Tryz.underlying69 (by rw [IntKind.wrap_u64]; omega) ?_
            (conv => whnf)
            refine arC (op := .add) (a := ((m * 10 : Nat) : Int)) (b := ((d9 : Nat) : Int)) (m := (((m * 10 + d9) % 18446744073709551616 : Nat) : Int)) (.inl rfl) (by show IntKind.u64.wrap (_ + _) = _; rw [IntKind.wrap_u64]; omega) ?_
            (conv => whnf)
            refine ltC ?_
            by_cases b3 : (m * 10 + d9) % 18446744073709551616 < m * 10
            · rw [decide_eq_true (show (((m * 10 + d9) % 18446744073709551616 : Nat) : Int) < ((m * 10 : Nat) : Int) by omega)]
              repeat' ((conv => whnf); first | refine RetC.mk ?_ | refine NzC.mk (by decide) ?_ | refine RngC.mk (by omega) (by omega) ?_ | refine IdxC.mk (by omega) (by omega) ?_ | refine brD (fun _ => ?_) (fun _ => ?_) | refine brND (fun _ => ?_) (fun _ => ?_) | refine brN (fun _ => ?_) (fun _ => ?_) | refine brI (fun _ => ?_) (fun _ => ?_))
              exact ⟨⟨18446744073709551615, _, by decide, .inr (.inl rfl), rfl⟩, hS.ext⟩
            rw [decide_eq_false (show ¬ (((m * 10 + d9) % 18446744073709551616 : Nat) : Int) < ((m * 10 : Nat) : Int) by omega)]
            (conv => whnf)
            refine gtC ?_
            rw [decide_eq_false (show ¬ (((m * 10 + d9) % 18446744073709551616 : Nat) : Int) > 18446744073709551615 by omega)]
            (conv => whnf)
            refine RngC.mk (by omega) (by omega) ?_
            (conv => whnf)
            refine LoopE.mk ⟨_, [(101, .int .i64 ((k + 1 : Nat) : Int)), (100, _), (99, _), (13, _), (12, _), (11, _), (10, _), (9, _), (8, _), (1, _)], ?_, ⟨rfl, rfl, rfl, rfl, rfl, rfl, rfl, rfl, rfl, rfl, trivial⟩, ⟨k + 1, _, rfl, rfl, by omega, Nat.mod_lt _ (by decide), hS⟩⟩
            omega
          · rw [decide_eq_false (show ¬ ((y2 : Nat) : Int) ≤ 122 by omega)]
            repeat' ((conv => whnf); first | refine RetC.mk ?_ | refine NzC.mk (by decide) ?_ | refine RngC.mk (by omega) (by omega) ?_ | refine IdxC.mk (by omega) (by omega) ?_ | refine brD (fun _ => ?_) (fun _ => ?_) | refine brND (fun _ => ?_) (fun _ => ?_) | refine brN (fun _ => ?_) (fun _ => ?_) | refine brI (fun _ => ?_) (fun _ => ?_))
            exact ⟨⟨0, _, by decide, .inr (.inr rfl), rfl⟩, hS.ext⟩
        · rw [decide_eq_false (show ¬ (97 : Int) ≤ ((y1 : Nat) : Int) by omega)]
          repeat' ((conv => whnf); first | refine RetC.mk ?_ | refine NzC.mk (by decide) ?_ | refine RngC.mk (by omega) (by omega) ?_ | refine IdxC.mk (by omega) (by omega) ?_ | refine brD (fun _ => ?_) (fun _ => ?_) | refine brND (fun _ => ?_) (fun _ => ?_) | refine brN (fun _ => ?_) (fun _ => ?_) | refine brI (fun _ => ?_) (fun _ => ?_))
          exact ⟨⟨0, _, by decide, .inr (.inr rfl), rfl⟩, hS.ext⟩
    · (conv => whnf)
      refine leC ?_
      by_cases a1 : 48 ≤ x.toNat
      · rw [decide_eq_true (show (48 : Int) ≤ ((x.toNat : Nat) : Int) by omega)]
        (conv => whnf)
        refine leC ?_
        by_cases a2 : x.toNat ≤ 57
        · rw [decide_eq_true (show ((x.toNat : Nat) : Int) ≤ 57 by omega)]
          (conv => whnf)
          refine arC (op := .sub) (a := ((x.toNat : Nat) : Int)) (b := 48) (m := ((x.toNat - 48 : Nat) : Int)) (.inr (.inl rfl)) (by show IntKind.u8.wrap (_ - _) = _; rw [IntKind.wrap_u8']; omega) ?_
          (conv => whnf)
          refine convI (kd := .u8) (m := 10) (by kernel_rfl) Tryz.underlying5 (by rw [IntKind.wrap_u8']; omega) ?_
          (conv => whnf)
          refine geC ?_
          by_cases b1 : 10 ≤ (x.toNat - 48)
          · rw [decide_eq_true (show (((x.toNat - 48) : Nat) : Int) ≥ 10 by omega)]
            repeat' ((conv => whnf); first | refine RetC.mk ?_ | refine NzC.mk (by decide) ?_ | refine RngC.mk (by omega) (by omega) ?_ | refine IdxC.mk (by omega) (by omega) ?_ | refine brD (fun _ => ?_) (fun _ => ?_) | refine brND (fun _ => ?_) (fun _ => ?_) | refine brN (fun _ => ?_) (fun _ => ?_) | refine brI (fun _ => ?_) (fun _ => ?_))
            exact ⟨⟨0, _, by decide, .inr (.inr rfl), rfl⟩, hS.ext⟩
          rw [decide_eq_false (show ¬ (((x.toNat - 48) : Nat) : Int) ≥ 10 by omega)]
          (conv => whnf)
          refine geC ?_
          by_cases b2 : 1844674407370955162 ≤ m
          · rw [decide_eq_true (show ((m : Nat) : Int) ≥ 1844674407370955162 by omega)]
            repeat' ((conv => whnf); first | refine RetC.mk ?_ | refine NzC.mk (by decide) ?_ | refine RngC.mk (by omega) (by omega) ?_ | refine IdxC.mk (by omega) (by omega) ?_ | refine brD (fun _ => ?_) (fun _ => ?_) | refine brND (fun _ => ?_) (fun _ => ?_) | refine brN (fun _ => ?_) (fun _ => ?_) | refine brI (fun _ => ?_) (fun _ => ?_))
            exact ⟨⟨18446744073709551615, _, by decide, .inr (.inl rfl), rfl⟩, hS.ext⟩
          rw [decide_eq_false (show ¬ ((m : Nat) : Int) ≥ 1844674407370955162 by omega)]
          (conv => whnf)
          refine convI (kd := .u64) (m := 10) (by kernel_rfl) Tryz.underlying69 (by rw [IntKind.wrap_u64]; omega) ?_
          (conv => whnf)
          refine mulN (a := m) (b := 10) rfl rfl (by rw [IntKind.wrap_u64]; omega) ?_
          (conv => whnf)
          refine convI (kd := .u64) (m := (((x.toNat - 48) : Nat) : Int)) (by kernel_rfl) Tryz.underlying69 (by rw [IntKind.wrap_u64]; omega) ?_
          (conv => whnf)
          refine arC (op := .add) (a := ((m * 10 : Nat) : Int)) (b := (((x.toNat - 48) : Nat) : Int)) (m := (((m * 10 + (x.toNat - 48)) % 18446744073709551616 : Nat) : Int)) (.inl rfl) (by show IntKind.u64.wrap (_ + _) = _; rw [IntKind.wrap_u64]; omega) ?_
          (conv => whnf)
          refine ltC ?_
          by_cases b3 : (m * 10 + (x.toNat - 48)) % 18446744073709551616 < m * 10
          · rw [decide_eq_true (show (((m * 10 + (x.toNat - 48)) % 18446744073709551616 : Nat) : Int) < ((m * 10 : Nat) : Int) by omega)]
            repeat' ((conv => whnf); first | refine RetC.mk ?_ | refine NzC.mk (by decide) ?_ | refine RngC.mk (by omega) (by omega) ?_ | refine IdxC.mk (by omega) (by omega) ?_ | refine brD (fun _ => ?_) (fun _ => ?_) | refine brND (fun _ => ?_) (fun _ => ?_) | refine brN (fun _ => ?_) (fun _ => ?_) | refine brI (fun _ => ?_) (fun _ => ?_))
            exact ⟨⟨18446744073709551615, _, by decide, .inr (.inl rfl), rfl⟩, hS.ext⟩
          rw [decide_eq_false (show ¬ (((m * 10 + (x.toNat - 48)) % 18446744073709551616 : Nat) : Int) < ((m * 10 : Nat) : Int) by omega)]
          (conv => whnf)
          refine gtC ?_
          rw [decide_eq_false (show ¬ (((m * 10 + (x.toNat - 48)) % 18446744073709551616 : Nat) : Int) > 18446744073709551615 by omega)]
          (conv => whnf)
          refine RngC.mk (by omega) (by omega) ?_
          (conv => whnf)
          refine LoopE.mk ⟨_, [(101, .int .i64 ((k + 1 : Nat) : Int)), (100, _), (99, _), (13, _), (12, _), (11, _), (10, _), (9, _), (8, _), (1, _)], ?_, ⟨rfl, rfl, rfl, rfl, rfl, rfl, rfl, rfl, rfl, rfl, trivial⟩, ⟨k + 1, _, rfl, rfl, by omega, Nat.mod_lt _ (by decide), hS⟩⟩
          omega
        · rw [decide_eq_false (show ¬ ((x.toNat : Nat) : Int) ≤ 57 by omega)]
          (conv => whnf)
          refine (lower_ok x.toNat hxl _).mono ?_
          rintro v1 w4 ⟨⟨y1, hy1, rfl⟩, rfl⟩
          (conv => whnf)
          refine leC ?_
          by_cases c1 : 97 ≤ y1
          · rw [decide_eq_true (show (97 : Int) ≤ ((y1 : Nat) : Int) by omega)]
            (conv => whnf)
            refine (lower_ok x.toNat hxl _).mono ?_
            rintro v2 w5 ⟨⟨y2, hy2, rfl⟩, rfl⟩
            (conv => whnf)
            refine leC ?_
            by_cases c2 : y2 ≤ 122
            · rw [decide_eq_true (show ((y2 : Nat) : Int) ≤ 122 by omega)]
              (conv => whnf)
              refine (lower_ok x.toNat hxl _).mono ?_
              rintro v3 w6 ⟨⟨y3, hy3, rfl⟩, rfl⟩
              (conv => whnf)
              refine arC (op := .sub) (a := ((y3 : Nat) : Int)) (b := 97) (m := (((y3 + 159) % 256 : Nat) : Int)) (.inr (.inl rfl)) (by show IntKind.u8.wrap (_ - _) = _; rw [IntKind.wrap_u8']; omega) ?_
              (conv => whnf)
              refine arC (op := .add) (a := (((y3 + 159) % 256 : Nat) : Int)) (b := 10) (m := (((y3 + 169) % 256 : Nat) : Int)) (.inl rfl) (by show IntKind.u8.wrap (_ + _) = _; rw [IntKind.wrap_u8']; omega) ?_
              have hd9 : (y3 + 169) % 256 < 256 := Nat.mod_lt _ (by decide)
              generalize (y3 + 169) % 256 = d9 at hd9
              (conv => whnf)
              refine convI (kd := .u8) (m := 10) (by kernel_rfl) Tryz.underlying5 (by rw [IntKind.wrap_u8']; omega) ?_
              (conv => whnf)
              refine geC ?_
              by_cases b1 : 10 ≤ d9
              · rw [decide_eq_true (show ((d9 : Nat) : Int) ≥ 10 by omega)]
                repeat' ((conv => whnf); first | refine RetC.mk ?_ | refine NzC.mk (by decide) ?_ | refine RngC.mk (by omega) (by omega) ?_ | refine IdxC.mk (by omega) (by omega) ?_ | refine brD (fun _ => ?_) (fun _ => ?_) | refine brND (fun _ => ?_) (fun _ => ?_) | refine brN (fun _ => ?_) (fun _ => ?_) | refine brI (fun _ => ?_) (fun _ => ?_))
                exact ⟨⟨0, _, by decide, .inr (.inr rfl), rfl⟩, hS.ext⟩
              rw [decide_eq_false (show ¬ ((d9 : Nat) : Int) ≥ 10 by omega)]
              (conv => whnf)
              refine geC ?_
              by_cases b2 : 1844674407370955162 ≤ m
              · rw [decide_eq_true (show ((m : Nat) : Int) ≥ 1844674407370955162 by omega)]
                repeat' ((conv => whnf); first | refine RetC.mk ?_ | refine NzC.mk (by decide) ?_ | refine RngC.mk (by omega) (by omega) ?_ | refine IdxC.mk (by omega) (by omega) ?_ | refine brD (fun _ => ?_) (fun _ => ?_) | refine brND (fun _ => ?_) (fun _ => ?_) | refine brN (fun _ => ?_) (fun _ => ?_) | refine brI (fun _ => ?_) (fun _ => ?_))
                exact ⟨⟨18446744073709551615, _, by decide, .inr (.inl rfl), rfl⟩, hS.ext⟩
              rw [decide_eq_false (show ¬ ((m : Nat) : Int) ≥ 1844674407370955162 by omega)]
              (conv => whnf)
              refine convI (kd := .u64) (m := 10) (by kernel_rfl) Tryz.underlying69 (by rw [IntKind.wrap_u64]; omega) ?_
              (conv => whnf)
              refine mulN (a := m) (b := 10) rfl rfl (by rw [IntKind.wrap_u64]; omega) ?_
              (conv => whnf)
              refine convI (kd := .u64) (m := ((d9 : Nat) : Int)) (by kernel_rfl) Tryz.underlying69 (by rw [IntKind.wrap_u64]; omega) ?_
              (conv => whnf)
              refine arC (op := .add) (a := ((m * 10 : Nat) : Int)) (b := ((d9 : Nat) : Int)) (m := (((m * 10 + d9) % 18446744073709551616 : Nat) : Int)) (.inl rfl) (by show IntKind.u64.wrap (_ + _) = _; rw [IntKind.wrap_u64]; omega) ?_
              (conv => whnf)
              refine ltC ?_
              by_cases b3 : (m * 10 + d9) % 18446744073709551616 < m * 10
              · rw [decide_eq_true (show (((m * 10 + d9) % 18446744073709551616 : Nat) : Int) < ((m * 10 : Nat) : Int) by omega)]
                repeat' ((conv => whnf); first | refine RetC.mk ?_ | refine NzC.mk (by decide) ?_ | refine RngC.mk (by omega) (by omega) ?_ | refine IdxC.mk (by omega) (by omega) ?_ | refine brD (fun _ => ?_) (fun _ => ?_) | refine brND (fun _ => ?_) (fun _ => ?_) | refine brN (fun _ => ?_) (fun _ => ?_) | refine brI (fun _ => ?_) (fun _ => ?_))
                exact ⟨⟨18446744073709551615, _, by decide, .inr (.inl rfl), rfl⟩, hS.ext⟩
              rw [decide_eq_false (show ¬ (((m * 10 + d9) % 18446744073709551616 : Nat) : Int) < ((m * 10 : Nat) : Int) by omega)]
              (conv => whnf)
              refine gtC ?_
              rw [decide_eq_false (show ¬ (((m * 10 + d9) % 18446744073709551616 : Nat) : Int) > 18446744073709551615 by omega)]
              (conv => whnf)
              refine RngC.mk (by omega) (by omega) ?_
              (conv => whnf)
              refine LoopE.mk ⟨_, [(101, .int .i64 ((k + 1 : Nat) : Int)), (100, _), (99, _), (13, _), (12, _), (11, _), (10, _), (9, _), (8, _), (1, _)], ?_, ⟨rfl, rfl, rfl, rfl, rfl, rfl, rfl, rfl, rfl, rfl, trivial⟩, ⟨k + 1, _, rfl, rfl, by omega, Nat.mod_lt _ (by decide), hS⟩⟩
              omega
            · rw [decide_eq_false (show ¬ ((y2 : Nat) : Int) ≤ 122 by omega)]
              repeat' ((conv => whnf); first | refine RetC.mk ?_ | refine NzC.mk (by decide) ?_ | refine RngC.mk (by omega) (by omega) ?_ | refine IdxC.mk (by omega) (by omega) ?_ | refine brD (fun _ => ?_) (fun _ => ?_) | refine brND (fun _ => ?_) (fun _ => ?_) | refine brN (fun _ => ?_) (fun _ => ?_) | refine brI (fun _ => ?_) (fun _ => ?_))
              exact ⟨⟨0, _, by decide, .inr (.inr rfl), rfl⟩, hS.ext⟩
          · rw [decide_eq_false (show ¬ (97 : Int) ≤ ((y1 : Nat) : Int) by omega)]
            repeat' ((conv => whnf); first | refine RetC.mk ?_ | refine NzC.mk (by decide) ?_ | refine RngC.mk (by omega) (by omega) ?_ | refine IdxC.mk (by omega) (by omega) ?_ | refine brD (fun _ => ?_) (fun _ => ?_) | refine brND (fun _ => ?_) (fun _ => ?_) | refine brN (fun _ => ?_) (fun _ => ?_) | refine brI (fun _ => ?_) (fun _ => ?_))
            exact ⟨⟨0, _, by decide, .inr (.inr rfl), rfl⟩, hS.ext⟩
      · rw [decide_eq_false (show ¬ (48 : Int) ≤ ((x.toNat : Nat) : Int) by omega)]
        (conv => whnf)
        refine (lower_ok x.toNat hxl _).mono ?_
        rintro v1 w4 ⟨⟨y1, hy1, rfl⟩, rfl⟩
        (conv => whnf)
        refine leC ?_
        by_cases c1 : 97 ≤ y1
        · rw [decide_eq_true (show (97 : Int) ≤ ((y1 : Nat) : Int) by omega)]
          (conv => whnf)
          refine (lower_ok x.toNat hxl _).mono ?_
          rintro v2 w5 ⟨⟨y2, hy2, rfl⟩, rfl⟩
          (conv => whnf)
          refine leC ?_
          by_cases c2 : y2 ≤ 122
          · rw [decide_eq_true (show ((y2 : Nat) : Int) ≤ 122 by omega)]
            (conv => whnf)
            refine (lower_ok x.toNat hxl _).mono ?_
            rintro v3 w6 ⟨⟨y3, hy3, rfl⟩, rfl⟩
            (conv => whnf)
            refine arC (op := .sub) (a := ((y3 : Nat) : Int)) (b := 97) (m := (((y3 + 159) % 256 : Nat) : Int)) (.inr (.inl rfl)) (by show IntKind.u8.wrap (_ - _) = _; rw [IntKind.wrap_u8']; omega) ?_
            (conv => whnf)
            refine arC (op := .add) (a := (((y3 + 159) % 256 : Nat) : Int)) (b := 10) (m := (((y3 + 169) % 256 : Nat) : Int)) (.inl rfl) (by show IntKind.u8.wrap (_ + _) = _; rw [IntKind.wrap_u8']; omega) ?_
            have hd9 : (y3 + 169) % 256 < 256 := Nat.mod_lt _ (by decide)
            generalize (y3 + 169) % 256 = d9 at hd9
            (conv => whnf)
            refine convI (kd := .u8) (m := 10) (by kernel_rfl) Tryz.underlying5 (by rw [IntKind.wrap_u8']; omega) ?_
            (conv => whnf)
            refine geC ?_
            by_cases b1 : 10 ≤ d9
            · rw [decide_eq_true (show ((d9 : Nat) : Int) ≥ 10 by omega)]
              repeat' ((conv => whnf); first | refine RetC.mk ?_ | refine NzC.mk (by decide) ?_ | refine RngC.mk (by omega) (by omega) ?_ | refine IdxC.mk (by omega) (by omega) ?_ | refine brD (fun _ => ?_) (fun _ => ?_) | refine brND (fun _ => ?_) (fun _ => ?_) | refine brN (fun _ => ?_) (fun _ => ?_) | refine brI (fun _ => ?_) (fun _ => ?_))
              exact ⟨⟨0, _, by decide, .inr (.inr rfl), rfl⟩, hS.ext⟩
            rw [decide_eq_false (show ¬ ((d9 : Nat) : Int) ≥ 10 by omega)]
            (conv => whnf)
            refine geC ?_
            by_cases b2 : 1844674407370955162 ≤ m
            · rw [decide_eq_true (show ((m : Nat) : Int) ≥ 1844674407370955162 by omega)]
              repeat' ((conv => whnf); first | refine RetC.mk ?_ | refine NzC.mk (by decide) ?_ | refine RngC.mk (by omega) (by omega) ?_ | refine IdxC.mk (by omega) (by omega) ?_ | refine brD (fun _ => ?_) (fun _ => ?_) | refine brND (fun _ => ?_) (fun _ => ?_) | refine brN (fun _ => ?_) (fun _ => ?_) | refine brI (fun _ => ?_) (fun _ => ?_))
              exact ⟨⟨18446744073709551615, _, by decide, .inr (.inl rfl), rfl⟩, hS.ext⟩
            rw [decide_eq_false (show ¬ ((m : Nat) : Int) ≥ 1844674407370955162 by omega)]
            (conv => whnf)
            refine convI (kd := .u64) (m := 10) (by kernel_rfl) Tryz.underlying69 (by rw [IntKind.wrap_u64]; omega) ?_
            (conv => whnf)
            refine mulN (a := m) (b := 10) rfl rfl (by rw [IntKind.wrap_u64]; omega) ?_
            (conv => whnf)
            refine convI (kd := .u64) (m := ((d9 : Nat) : Int)) (by kernel_rfl) Tryz.underlying69 (by rw [IntKind.wrap_u64]; omega) ?_
            (conv => whnf)
            refine arC (op := .add) (a := ((m * 10 : Nat) : Int)) (b := ((d9 : Nat) : Int)) (m := (((m * 10 + d9) % 18446744073709551616 : Nat) : Int)) (.inl rfl) (by show IntKind.u64.wrap (_ + _) = _; rw [IntKind.wrap_u64]; omega) ?_
            (conv => whnf)
            refine ltC ?_
            by_cases b3 : (m * 10 + d9) % 18446744073709551616 < m * 10
            · rw [decide_eq_true (show (((m * 10 + d9) % 18446744073709551616 : Nat) : Int) < ((m * 10 : Nat) : Int) by omega)]
              repeat' ((conv => whnf); first | refine RetC.mk ?_ | refine NzC.mk (by decide) ?_ | refine RngC.mk (by omega) (by omega) ?_ | refine IdxC.mk (by omega) (by omega) ?_ | refine brD (fun _ => ?_) (fun _ => ?_) | refine brND (fun _ => ?_) (fun _ => ?_) | refine brN (fun _ => ?_) (fun _ => ?_) | refine brI (fun _ => ?_) (fun _ => ?_))
              exact ⟨⟨18446744073709551615, _, by decide, .inr (.inl rfl), rfl⟩, hS.ext⟩
            rw [decide_eq_false (show ¬ (((m * 10 + d9) % 18446744073709551616 : Nat) : Int) < ((m * 10 : Nat) : Int) by omega)]
            (conv => whnf)
            refine gtC ?_
            rw [decide_eq_false (show ¬ (((m * 10 + d9) % 18446744073709551616 : Nat) : Int) > 18446744073709551615 by omega)]
            (conv => whnf)
            refine RngC.mk (by omega) (by omega) ?_
            (conv => whnf)
            refine LoopE.mk ⟨_, [(101, .int .i64 ((k + 1 : Nat) : Int)), (100, _), (99, _), (13, _), (12, _), (11, _), (10, _), (9, _), (8, _), (1, _)], ?_, ⟨rfl, rfl, rfl, rfl, rfl, rfl, rfl, rfl, rfl, rfl, trivial⟩, ⟨k + 1, _, rfl, rfl, by omega, Nat.mod_lt _ (by decide), hS⟩⟩
            omega
          · rw [decide_eq_false (show ¬ ((y2 : Nat) : Int) ≤ 122 by omega)]
            repeat' ((conv => whnf); first | refine RetC.mk ?_ | refine NzC.mk (by decide) ?_ | refine RngC.mk (by omega) (by omega) ?_ | refine IdxC.mk (by omega) (by omega) ?_ | refine brD (fun _ => ?_) (fun _ => ?_) | refine brND (fun _ => ?_) (fun _ => ?_) | refine brN (fun _ => ?_) (fun _ => ?_) | refine brI (fun _ => ?_) (fun _ => ?_))
            exact ⟨⟨0, _, by decide, .inr (.inr rfl), rfl⟩, hS.ext⟩
        · rw [decide_eq_false (show ¬ (97 : Int) ≤ ((y1 : Nat) : Int) by omega)]
          repeat' ((conv => whnf); first | refine RetC.mk ?_ | refine NzC.mk (by decide) ?_ | refine RngC.mk (by omega) (by omega) ?_ | refine IdxC.mk (by omega) (by omega) ?_ | refine brD (fun _ => ?_) (fun _ => ?_) | refine brND (fun _ => ?_) (fun _ => ?_) | refine brN (fun _ => ?_) (fun _ => ?_) | refine brI (fun _ => ?_) (fun _ => ?_))
          exact ⟨⟨0, _, by decide, .inr (.inr rfl), rfl⟩, hS.ext⟩
  · (conv => whnf)
    repeat' ((conv => whnf); first | refine RetC.mk ?_ | refine NzC.mk (by decide) ?_ | refine RngC.mk (by omega) (by omega) ?_ | refine IdxC.mk (by omega) (by omega) ?_ | refine brD (fun _ => ?_) (fun _ => ?_) | refine brND (fun _ => ?_) (fun _ => ?_) | refine brN (fun _ => ?_) (fun _ => ?_) | refine brI (fun _ => ?_) (fun _ => ?_))
    exact ⟨⟨m, .nilIface, hm, .inl rfl, rfl⟩, hS.ext⟩
end Go.Proofs.YtgcbcagaibecbaaGreatDoor

namespace Go.Proofs.YtgcbcagaibecbaaGreatDoor
set_option maxRecDepth 20000
open Go Ev Gap
variable [Go.Proofs.YtgcbcagaibecbaaGreatDoor.Gap.Leaps]

section
variable {P : Program} {t u : TypeId} {kd : IntKind} {a b : Int} {w : World} {k : Value → Prop}
theorem plain_info_of {t : TypeId} {i : TypeInfo} {β : Type} {f : TypeInfo → Sem β} (h : P.info? t = some i) (hf : Plain P (f i)) : Plain P (typeInfo t >>= f) := by
  unfold typeInfo
  show Plain P ((match P.info? t with | some i => pure i | none => stuck "no such type") >>= f)
  rw [h]
  exact hf
theorem ifEq_run (d : Nat) {ms : Array (String × TypeId)} (ht : P.underlying t = some (.interface ms)) (hu : P.underlying u = some (.int kd)) (hc : (P.info? u).map (·.comparable) = some true) (w : World) : (Op.equalIn (d + 2) t (.iface u (.int kd a)) (.iface u (.int kd b))).run P w = .ok (a == b) w := by
  obtain ⟨i, hi, hci⟩ := Option.map_eq_some_iff.1 hc
  simp [Op.equalIn, underlying, ht, hu, typeInfo, hi, hci]
theorem ifEq_plain (d : Nat) {ms : Array (String × TypeId)} (ht : P.underlying t = some (.interface ms)) (hu : P.underlying u = some (.int kd)) (hc : (P.info? u).map (·.comparable) = some true) : Plain P (Op.equalIn (d + 2) t (.iface u (.int kd a)) (.iface u (.int kd b))) := by
  obtain ⟨i, hi, hci⟩ := Option.map_eq_some_iff.1 hc
  unfold Op.equalIn
  refine plain_under_of ht ?_
  dsimp only
  rw [if_neg (by simp)]
  refine plain_info_of hi ?_
  rw [if_neg (by simp [hci])]
  unfold Op.equalIn
  refine plain_under_of hu ?_
  dsimp only
  rw [if_pos rfl]
  trivial
theorem ifEqI {ms : Array (String × TypeId)} (ht : P.underlying t = some (.interface ms)) (hu : P.underlying u = some (.int kd)) (hc : (P.info? u).map (·.comparable) = some true) {r : Bool} (hr : (a == b) = r) (hk : k (.bool r)) : IfEqC P .eql t (.iface u (.int kd a)) (.iface u (.int kd b)) w k := by
  subst hr
  exact ⟨⟨_, Quiet.of (plain_eq (ifEq_plain 9998 ht hu hc)) (eql_of (ifEq_run 9998 ht hu hc) w) rfl rfl, hk⟩⟩
theorem ifNeI {ms : Array (String × TypeId)} (ht : P.underlying t = some (.interface ms)) (hu : P.underlying u = some (.int kd)) (hc : (P.info? u).map (·.comparable) = some true) {r : Bool} (hr : (!(a == b)) = r) (hk : k (.bool r)) : IfEqC P .neq t (.iface u (.int kd a)) (.iface u (.int kd b)) w k := by
  subst hr
  exact ⟨⟨_, Quiet.of (plain_ne (ifEq_plain 9998 ht hu hc)) (neq_of (ifEq_run 9998 ht hu hc) w) rfl rfl, hk⟩⟩
end
end Go.Proofs.YtgcbcagaibecbaaGreatDoor

namespace Go.Proofs.YtgcbcagaibecbaaGreatDoor
set_option maxRecDepth 20000
open Go Ev Gap
variable [Go.Proofs.YtgcbcagaibecbaaGreatDoor.Gap.Leaps]

theorem errC : (Tryz.prog.info? 160).map (·.comparable) = some true := by kernel_rfl
theorem parseInt_ok (l : List UInt8) (h0 : 2 ≤ l.length) (hl : l.length ≤ 100000) (w : World) : CallC Tryz.prog 97 #[.string (bs l), .int .i64 10, .int .i64 0] w fun v w' => (∃ (n : Int) (e : Value), (e = .nilIface ∨ NumE e) ∧ -9223372036854775808 ≤ n ∧ n ≤ 9223372036854775807 ∧ v = .tuple #[.int .i64 n, e]) ∧ Ext No w w' := by
  have hS := St.start w No
  have hne : l ≠ [] := fun e => by rw [e] at h0; simp at h0
  obtain ⟨b0, r, rfl⟩ := List.exists_cons_of_ne_nil hne
  have hr : r ≠ [] := fun e => by rw [e] at h0; simp at h0
  refine fn_intro tabOk Tryz.func97 (by kernel_rfl) rfl Tryz.ntmps97 (Nat.le_of_ble_eq_true rfl) ?_
  (conv => whnf)
  refine eqS2 ?_
  rw [decide_eq_false hne]
  (conv => whnf)
  refine idxS (j := 0) Tryz.underlying9 rfl (x := b0) rfl ?_
  (conv => whnf)
  refine eqC ?_
  generalize (((b0.toNat : Nat) : Int) == 43) = c43
  cases c43
  · (conv => whnf)
    refine eqC ?_
    generalize (((b0.toNat : Nat) : Int) == 45) = c45
    cases c45
    · (conv => whnf)
      refine (parseUint_ok (b0 :: r) (hne) (by simp only [List.length_cons] at hl ⊢; omega) _).mono ?_
      rintro v1 w1 ⟨⟨u, e, hu, he, rfl⟩, hx⟩
      replace hS := hS.no hx
      rcases he with rfl | rfl | rfl
      · skip
        (conv => whnf)
        refine RngC.mk (by omega) (by omega) ?_
        (conv => whnf)
        refine convI (kd := .u64) (m := 63) (by kernel_rfl) Tryz.underlying105 (by rw [IntKind.wrap_u64]; omega) ?_
        (conv => whnf)
        refine shlC (n := 63) (m := 9223372036854775808) rfl (by decide) (by rw [IntKind.wrap_u64]; decide) ?_
        (conv => whnf)
        refine geC ?_
        by_cases d1 : 9223372036854775808 ≤ u
        · rw [decide_eq_true (show ((u : Nat) : Int) ≥ 9223372036854775808 by omega)]
          (conv => whnf)
          refine arC (op := .sub) (a := 9223372036854775808) (b := 1) (m := 9223372036854775807) (.inr (.inl rfl)) (by show IntKind.u64.wrap (_ - _) = _; rw [IntKind.wrap_u64]; omega) ?_
          (conv => whnf)
          refine convI (kd := .i64) (m := 9223372036854775807) (by kernel_rfl) Tryz.underlying2 (by rw [IntKind.wrap_i64]; omega) ?_
          repeat' ((conv => whnf); first | refine RetC.mk ?_ | refine NzC.mk (by decide) ?_ | refine RngC.mk (by omega) (by omega) ?_ | refine IdxC.mk (by omega) (by omega) ?_ | refine brD (fun _ => ?_) (fun _ => ?_) | refine brND (fun _ => ?_) (fun _ => ?_) | refine brN (fun _ => ?_) (fun _ => ?_) | refine brI (fun _ => ?_) (fun _ => ?_))
          exact ⟨⟨_, _, .inr (.inl rfl), by omega, by omega, rfl⟩, hS.ext⟩
        · rw [decide_eq_false (show ¬ ((u : Nat) : Int) ≥ 9223372036854775808 by omega)]
          (conv => whnf)
          refine convI (kd := .i64) (m := ((u : Nat) : Int)) (by kernel_rfl) Tryz.underlying2 (by rw [IntKind.wrap_i64]; omega) ?_
          repeat' ((conv => whnf); first | refine RetC.mk ?_ | refine NzC.mk (by decide) ?_ | refine RngC.mk (by omega) (by omega) ?_ | refine IdxC.mk (by omega) (by omega) ?_ | refine brD (fun _ => ?_) (fun _ => ?_) | refine brND (fun _ => ?_) (fun _ => ?_) | refine brN (fun _ => ?_) (fun _ => ?_) | refine brI (fun _ => ?_) (fun _ => ?_))
          exact ⟨⟨_, _, .inl rfl, by omega, by omega, rfl⟩, hS.ext⟩
      · (conv => whnf)
        refine ifNeI Tryz.underlying26 Tryz.underlying160 errC (r := false) rfl ?_
        (conv => whnf)
        refine RngC.mk (by omega) (by omega) ?_
        (conv => whnf)
        refine convI (kd := .u64) (m := 63) (by kernel_rfl) Tryz.underlying105 (by rw [IntKind.wrap_u64]; omega) ?_
        (conv => whnf)
        refine shlC (n := 63) (m := 9223372036854775808) rfl (by decide) (by rw [IntKind.wrap_u64]; decide) ?_
        (conv => whnf)
        refine geC ?_
        by_cases d1 : 9223372036854775808 ≤ u
        · rw [decide_eq_true (show ((u : Nat) : Int) ≥ 9223372036854775808 by omega)]
          (conv => whnf)
          refine arC (op := .sub) (a := 9223372036854775808) (b := 1) (m := 9223372036854775807) (.inr (.inl rfl)) (by show IntKind.u64.wrap (_ - _) = _; rw [IntKind.wrap_u64]; omega) ?_
          (conv => whnf)
          refine convI (kd := .i64) (m := 9223372036854775807) (by kernel_rfl) Tryz.underlying2 (by rw [IntKind.wrap_i64]; omega) ?_
          repeat' ((conv => whnf); first | refine RetC.mk ?_ | refine NzC.mk (by decide) ?_ | refine RngC.mk (by omega) (by omega) ?_ | refine IdxC.mk (by omega) (by omega) ?_ | refine brD (fun _ => ?_) (fun _ => ?_) | refine brND (fun _ => ?_) (fun _ => ?_) | refine brN (fun _ => ?_) (fun _ => ?_) | refine brI (fun _ => ?_) (fun _ => ?_))
          exact ⟨⟨_, _, .inr (.inl rfl), by omega, by omega, rfl⟩, hS.ext⟩
        · rw [decide_eq_false (show ¬ ((u : Nat) : Int) ≥ 9223372036854775808 by omega)]
          (conv => whnf)
          refine convI (kd := .i64) (m := ((u : Nat) : Int)) (by kernel_rfl) Tryz.underlying2 (by rw [IntKind.wrap_i64]; omega) ?_
          repeat' ((conv => whnf); first | refine RetC.mk ?_ | refine NzC.mk (by decide) ?_ | refine RngC.mk (by omega) (by omega) ?_ | refine IdxC.mk (by omega) (by omega) ?_ | refine brD (fun _ => ?_) (fun _ => ?_) | refine brND (fun _ => ?_) (fun _ => ?_) | refine brN (fun _ => ?_) (fun _ => ?_) | refine brI (fun _ => ?_) (fun _ => ?_))
          exact ⟨⟨_, _, .inl rfl, by omega, by omega, rfl⟩, hS.ext⟩
      · (conv => whnf)
        refine ifNeI Tryz.underlying26 Tryz.underlying160 errC (r := true) rfl ?_
        repeat' ((conv => whnf); first | refine RetC.mk ?_ | refine NzC.mk (by decide) ?_ | refine RngC.mk (by omega) (by omega) ?_ | refine IdxC.mk (by omega) (by omega) ?_ | refine brD (fun _ => ?_) (fun _ => ?_) | refine brND (fun _ => ?_) (fun _ => ?_) | refine brN (fun _ => ?_) (fun _ => ?_) | refine brI (fun _ => ?_) (fun _ => ?_))
        exact ⟨⟨_, _, .inr (.inr rfl), by omega, by omega, rfl⟩, hS.ext⟩
    · (conv => whnf)
      refine slcFrom (r := r) Tryz.underlying9 (b := 1) rfl (by simp) rfl ?_
      (conv => whnf)
      refine (parseUint_ok (r) (hr) (by simp only [List.length_cons] at hl ⊢; omega) _).mono ?_
      rintro v1 w1 ⟨⟨u, e, hu, he, rfl⟩, hx⟩
      replace hS := hS.no hx
      rcases he with rfl | rfl | rfl
      · skip
        (conv => whnf)
        refine RngC.mk (by omega) (by omega) ?_
        (conv => whnf)
        refine convI (kd := .u64) (m := 63) (by kernel_rfl) Tryz.underlying105 (by rw [IntKind.wrap_u64]; omega) ?_
        (conv => whnf)
        refine shlC (n := 63) (m := 9223372036854775808) rfl (by decide) (by rw [IntKind.wrap_u64]; decide) ?_
        (conv => whnf)
        refine gtC ?_
        by_cases d1 : 9223372036854775808 < u
        · rw [decide_eq_true (show ((u : Nat) : Int) > 9223372036854775808 by omega)]
          (conv => whnf)
          refine convI (kd := .i64) (m := -9223372036854775808) (by kernel_rfl) Tryz.underlying2 (by rw [IntKind.wrap_i64]; omega) ?_
          (conv => whnf)
          refine negI (m := -9223372036854775808) (by rw [IntKind.wrap_i64]; omega) ?_
          repeat' ((conv => whnf); first | refine RetC.mk ?_ | refine NzC.mk (by decide) ?_ | refine RngC.mk (by omega) (by omega) ?_ | refine IdxC.mk (by omega) (by omega) ?_ | refine brD (fun _ => ?_) (fun _ => ?_) | refine brND (fun _ => ?_) (fun _ => ?_) | refine brN (fun _ => ?_) (fun _ => ?_) | refine brI (fun _ => ?_) (fun _ => ?_))
          exact ⟨⟨_, _, .inr (.inl rfl), by omega, by omega, rfl⟩, hS.ext⟩
        · rw [decide_eq_false (show ¬ ((u : Nat) : Int) > 9223372036854775808 by omega)]
          (conv => whnf)
          refine convI (kd := .i64) (m := if u = 9223372036854775808 then -9223372036854775808 else ((u : Nat) : Int)) (by kernel_rfl) Tryz.underlying2 (by rw [IntKind.wrap_i64]; split <;> omega) ?_
          (conv => whnf)
          refine negI (m := -((u : Nat) : Int)) (by rw [IntKind.wrap_i64]; split <;> omega) ?_
          repeat' ((conv => whnf); first | refine RetC.mk ?_ | refine NzC.mk (by decide) ?_ | refine RngC.mk (by omega) (by omega) ?_ | refine IdxC.mk (by omega) (by omega) ?_ | refine brD (fun _ => ?_) (fun _ => ?_) | refine brND (fun _ => ?_) (fun _ => ?_) | refine brN (fun _ => ?_) (fun _ => ?_) | refine brI (fun _ => ?_) (fun _ => ?_))
          exact ⟨⟨_, _, .inl rfl, by omega, by omega, rfl⟩, hS.ext⟩
      · (conv => whnf)
        refine ifNeI Tryz.underlying26 Tryz.underlying160 errC (r := false) rfl ?_
        (conv => whnf)
        refine RngC.mk (by omega) (by omega) ?_
        (conv => whnf)
        refine convI (kd := .u64) (m := 63) (by kernel_rfl) Tryz.underlying105 (by rw [IntKind.wrap_u64]; omega) ?_
        (conv => whnf)
        refine shlC (n := 63) (m := 9223372036854775808) rfl (by decide) (by rw [IntKind.wrap_u64]; decide) ?_
        (conv => whnf)
        refine gtC ?_
        by_cases d1 : 9223372036854775808 < u
        · rw [decide_eq_true (show ((u : Nat) : Int) > 9223372036854775808 by omega)]
          (conv => whnf)
          refine convI (kd := .i64) (m := -9223372036854775808) (by kernel_rfl) Tryz.underlying2 (by rw [IntKind.wrap_i64]; omega) ?_
          (conv => whnf)
          refine negI (m := -9223372036854775808) (by rw [IntKind.wrap_i64]; omega) ?_
          repeat' ((conv => whnf); first | refine RetC.mk ?_ | refine NzC.mk (by decide) ?_ | refine RngC.mk (by omega) (by omega) ?_ | refine IdxC.mk (by omega) (by omega) ?_ | refine brD (fun _ => ?_) (fun _ => ?_) | refine brND (fun _ => ?_) (fun _ => ?_) | refine brN (fun _ => ?_) (fun _ => ?_) | refine brI (fun _ => ?_) (fun _ => ?_))
          exact ⟨⟨_, _, .inr (.inl rfl), by omega, by omega, rfl⟩, hS.ext⟩
        · rw [decide_eq_false (show ¬ ((u : Nat) : Int) > 9223372036854775808 by omega)]
          (conv => whnf)
          refine convI (kd := .i64) (m := if u = 9223372036854775808 then -9223372036854775808 else ((u : Nat) : Int)) (by kernel_rfl) Tryz.underlying2 (by rw [IntKind.wrap_i64]; split <;> omega) ?_
          (conv => whnf)
          refine negI (m := -((u : Nat) : Int)) (by rw [IntKind.wrap_i64]; split <;> omega) ?_
          repeat' ((conv => whnf); first | refine RetC.mk ?_ | refine NzC.mk (by decide) ?_ | refine RngC.mk (by omega) (by omega) ?_ | refine IdxC.mk (by omega) (by omega) ?_ | refine brD (fun _ => ?_) (fun _ => ?_) | refine brND (fun _ => ?_) (fun _ => ?_) | refine brN (fun _ => ?_) (fun _ => ?_) | refine brI (fun _ => ?_) (fun _ => ?_))
          exact ⟨⟨_, _, .inl rfl, by omega, by omega, rfl⟩, hS.ext⟩
      · (conv => whnf)
        refine ifNeI Tryz.underlying26 Tryz.underlying160 errC (r := true) rfl ?_
        repeat' ((conv => whnf); first | refine RetC.mk ?_ | refine NzC.mk (by decide) ?_ | refine RngC.mk (by omega) (by omega) ?_ | refine IdxC.mk (by omega) (by omega) ?_ | refine brD (fun _ => ?_) (fun _ => ?_) | refine brND (fun _ => ?_) (fun _ => ?_) | refine brN (fun _ => ?_) (fun _ => ?_) | refine brI (fun _ => ?_) (fun _ => ?_))
        exact ⟨⟨_, _, .inr (.inr rfl), by omega, by omega, rfl⟩, hS.ext⟩
  · (conv => whnf)
    refine slcFrom (r := r) Tryz.underlying9 (b := 1) rfl (by simp) rfl ?_
    (conv => whnf)
    refine (parseUint_ok (r) (hr) (by simp only [List.length_cons] at hl ⊢; omega) _).mono ?_
    rintro v1 w1 ⟨⟨u, e, hu, he, rfl⟩, hx⟩
    replace hS := hS.no hx
    rcases he with rfl | rfl | rfl
    · skip
      (conv => whnf)
      refine RngC.mk (by omega) (by omega) ?_
      (conv => whnf)
      refine convI (kd := .u64) (m := 63) (by kernel_rfl) Tryz.underlying105 (by rw [IntKind.wrap_u64]; omega) ?_
      (conv => whnf)
      refine shlC (n := 63) (m := 9223372036854775808) rfl (by decide) (by rw [IntKind.wrap_u64]; decide) ?_
      (conv => whnf)
      refine geC ?_
      by_cases d1 : 9223372036854775808 ≤ u
      · rw [decide_eq_true (show ((u : Nat) : Int) ≥ 9223372036854775808 by omega)]
        (conv => whnf)
        refine arC (op := .sub) (a := 9223372036854775808) (b := 1) (m := 9223372036854775807) (.inr (.inl rfl)) (by show IntKind.u64.wrap (_ - _) = _; rw [IntKind.wrap_u64]; omega) ?_
        (conv => whnf)
        refine convI (kd := .i64) (m := 9223372036854775807) (by kernel_rfl) Tryz.underlying2 (by rw [IntKind.wrap_i64]; omega) ?_
        repeat' ((conv => whnf); first | refine RetC.mk ?_ | refine NzC.mk (by decide) ?_ | refine RngC.mk (by omega) (by omega) ?_ | refine IdxC.mk (by omega) (by omega) ?_ | refine brD (fun _ => ?_) (fun _ => ?_) | refine brND (fun _ => ?_) (fun _ => ?_) | refine brN (fun _ => ?_) (fun _ => ?_) | refine brI (fun _ => ?_) (fun _ => ?_))
        exact ⟨⟨_, _, .inr (.inl rfl), by omega, by omega, rfl⟩, hS.ext⟩
      · rw [decide_eq_false (show ¬ ((u : Nat) : Int) ≥ 9223372036854775808 by omega)]
        (conv => whnf)
        refine convI (kd := .i64) (m := ((u : Nat) : Int)) (by kernel_rfl) Tryz.underlying2 (by rw [IntKind.wrap_i64]; omega) ?_
        repeat' ((conv => whnf); first | refine RetC.mk ?_ | refine NzC.mk (by decide) ?_ | refine RngC.mk (by omega) (by omega) ?_ | refine IdxC.mk (by omega) (by omega) ?_ | refine brD (fun _ => ?_) (fun _ => ?_) | refine brND (fun _ => ?_) (fun _ => ?_) | refine brN (fun _ => ?_) (fun _ => ?_) | refine brI (fun _ => ?_) (fun _ => ?_))
        exact ⟨⟨_, _, .inl rfl, by omega, by omega, rfl⟩, hS.ext⟩
    · (conv => whnf)
      refine ifNeI Tryz.underlying26 Tryz.underlying160 errC (r := false) rfl ?_
      (conv => whnf)
      refine RngC.mk (by omega) (by omega) ?_
      (conv => whnf)
      refine convI (kd := .u64) (m := 63) (by kernel_rfl) Tryz.underlying105 (by rw [IntKind.wrap_u64]; omega) ?_
      (conv => whnf)
      refine shlC (n := 63) (m := 9223372036854775808) rfl (by decide) (by rw [IntKind.wrap_u64]; decide) ?_
      (conv => whnf)
      refine geC ?_
      by_cases d1 : 9223372036854775808 ≤ u
      · rw [decide_eq_true (show ((u : Nat) : Int) ≥ 9223372036854775808 by omega)]
        (conv => whnf)
        refine arC (op := .sub) (a := 9223372036854775808) (b := 1) (m := 9223372036854775807) (.inr (.inl rfl)) (by show IntKind.u64.wrap (_ - _) = _; rw [IntKind.wrap_u64]; omega) ?_
        (conv => whnf)
        refine convI (kd := .i64) (m := 9223372036854775807) (by kernel_rfl) Tryz.underlying2 (by rw [IntKind.wrap_i64]; omega) ?_
        repeat' ((conv => whnf); first | refine RetC.mk ?_ | refine NzC.mk (by decide) ?_ | refine RngC.mk (by omega) (by omega) ?_ | refine IdxC.mk (by omega) (by omega) ?_ | refine brD (fun _ => ?_) (fun _ => ?_) | refine brND (fun _ => ?_) (fun _ => ?_) | refine brN (fun _ => ?_) (fun _ => ?_) | refine brI (fun _ => ?_) (fun _ => ?_))
        exact ⟨⟨_, _, .inr (.inl rfl), by omega, by omega, rfl⟩, hS.ext⟩
      · rw [decide_eq_false (show ¬ ((u : Nat) : Int) ≥ 9223372036854775808 by omega)]
        (conv => whnf)
        refine convI (kd := .i64) (m := ((u : Nat) : Int)) (by kernel_rfl) Tryz.underlying2 (by rw [IntKind.wrap_i64]; omega) ?_
        repeat' ((conv => whnf); first | refine RetC.mk ?_ | refine NzC.mk (by decide) ?_ | refine RngC.mk (by omega) (by omega) ?_ | refine IdxC.mk (by omega) (by omega) ?_ | refine brD (fun _ => ?_) (fun _ => ?_) | refine brND (fun _ => ?_) (fun _ => ?_) | refine brN (fun _ => ?_) (fun _ => ?_) | refine brI (fun _ => ?_) (fun _ => ?_))
        exact ⟨⟨_, _, .inl rfl, by omega, by omega, rfl⟩, hS.ext⟩
    · (conv => whnf)
      refine ifNeI Tryz.underlying26 Tryz.underlying160 errC (r := true) rfl ?_
      repeat' ((conv => whnf); first | refine RetC.mk ?_ | refine NzC.mk (by decide) ?_ | refine RngC.mk (by omega) (by omega) ?_ | refine IdxC.mk (by omega) (by omega) ?_ | refine brD (fun _ => ?_) (fun _ => ?_) | refine brND (fun _ => ?_) (fun _ => ?_) | refine brN (fun _ => ?_) (fun _ => ?_) | refine brI (fun _ => ?_) (fun _ => ?_))
      exact ⟨⟨_, _, .inr (.inr rfl), by omega, by omega, rfl⟩, hS.ext⟩
end Go.Proofs.YtgcbcagaibecbaaGreatDoor

namespace Go.Proofs.YtgcbcagaibecbaaGreatDoor
set_option maxRecDepth 20000
open Go Ev Gap
variable [Go.Proofs.YtgcbcagaibecbaaGreatDoor.Gap.Leaps]

theorem setRow_ext (w : World) (g : Nat) (cs : Array Value) : Ext (· = g) w (w.setRow g cs) :=
  ⟨rfl, rfl, rfl, by simp [World.setRow], fun k _ hne => by
    simp only [World.setRow, Array.getElem?_modify]
    rw [if_neg (fun e => hne e.symm)]⟩
theorem setRow_blk {w : World} {g : Nat} {t : TypeId} {cs : List Value} (h : Blk w g t cs) (ds : List Value) : Blk (w.setRow g ds.toArray) g t ds := by
  have h : w.heap[g]? = some (.cells cs.toArray t (0, 0)) := h
  show (w.setRow g ds.toArray).heap[g]? = _
  simp [World.setRow, Array.getElem?_modify, h]
theorem clone_ok (l : List UInt8) (w : World) (hl : l.length ≤ 100000) : CallC Tryz.prog 108 #[.string (bs l)] w fun v w' => v = .string (bs l) ∧ Ext No w w' := by
  have hS := St.start w No
  have hsz := bs_size l
  refine fn_intro tabOk Tryz.func108 (by kernel_rfl) rfl Tryz.ntmps108 (Nat.le_of_ble_eq_true rfl) ?_
  (conv => whnf)
  rw [hsz]
  by_cases h0 : l = []
  · subst h0
    repeat' ((conv => whnf); first | refine RetC.mk ?_ | refine NzC.mk (by decide) ?_ | refine RngC.mk (by omega) (by omega) ?_ | refine IdxC.mk (by omega) (by omega) ?_ | refine brD (fun _ => ?_) (fun _ => ?_) | refine brND (fun _ => ?_) (fun _ => ?_) | refine brN (fun _ => ?_) (fun _ => ?_) | refine brI (fun _ => ?_) (fun _ => ?_))
    exact ⟨rfl, hS.ext⟩
  have hpos := List.length_pos_iff.2 h0
  rw [show (((l.length : Nat) : Int) == 0) = false by simp only [beq_eq_false_iff_ne, ne_eq]; omega]
  (conv => whnf)
  rw [hsz]
  have hrep : (madeCells (Value.int .u8 0).cells (l.length * 1)).toList = (List.replicate l.length (0 : UInt8)).flatMap encU := by
    show (madeCells #[Value.int .u8 0] (l.length * 1)).toList = _
    rw [made_rep, Nat.mul_one, flatU, List.map_replicate]
    rfl
  refine hS.mkSlice (xs := List.replicate l.length (0 : UInt8)) (enc := encU) (sz := 1) (bytes := 1) (e := 5) (z := .int .u8 0) Tryz.underlying153 (by kernel_rfl) (by kernel_rfl) (by omega) (by omega) (by unfold maxLen; omega) (by simp) hrep (fun b w2 hb hS => ?_)
  replace hS : St w No w2 [ownL 5 1 encU (.slice (some ⟨b, 0, none⟩) l.length l.length) (List.replicate l.length 0)] := hS
  obtain ⟨hl2, ⟨h6, _⟩ | ⟨g', cap', cur, h6, _, h7, h8, h9, h10, h11⟩⟩ := hS.get 0 rfl
  · cases h6
  injection h6 with e1 e2 e3
  injection e1 with e1
  injection e1 with e1
  subst e1 e3
  have hcs : cur.size = l.length := by first | (simpa using h8) | (simpa using h10) | omega
  (conv => whnf)
  refine .quiet (plain_copy _ _ _) (Lib.run_copy_row_string _ _ _ _ 5 _ _ _ _ (bs l) _ _ Tryz.underlying153 (by kernel_rfl) h7 (by omega) (by omega)) (by simp) rfl ?_
  have hrow : (cur.toList.take 0 ++ Lib.byteCells (bs l).data.toList ++ cur.toList.drop (0 + (bs l).size)) = l.map fun x => Value.int .u8 (x.toNat : Int) := by
    rw [List.drop_of_length_le (by simp; omega), List.take_zero, List.nil_append, List.append_nil]
    rfl
  rw [hrow]
  have hB := setRow_blk (w := w2) (g := b) (cs := cur.toList) (t := 5) (show w2.heap[b]? = _ by rw [h7]) (l.map fun x => Value.int .u8 (x.toNat : Int))
  have hx : Ext No w (w2.setRow b (l.map fun x => Value.int .u8 (x.toNat : Int)).toArray) := by
    have := hS.upd 0 rfl (setRow_ext w2 b _) (fun c hc => by subst hc; exact List.mem_singleton.2 rfl) (blk_local _ _ _) hB (fun c hc => .inl hc)
    exact this.ext
  generalize w2.setRow b (l.map fun x => Value.int .u8 (x.toNat : Int)).toArray = w3 at hB hx
  (conv => whnf)
  refine IdxC.mk (by omega) (by omega) ?_
  (conv => whnf)
  refine ⟨.inl ⟨_, _, uns_quiet (e := 5) (by kernel_rfl) (by kernel_rfl) hB h0 (by omega) (by rw [List.take_of_length_le (by simp)]), ?_⟩⟩
  repeat' ((conv => whnf); first | refine RetC.mk ?_ | refine NzC.mk (by decide) ?_ | refine RngC.mk (by omega) (by omega) ?_ | refine IdxC.mk (by omega) (by omega) ?_ | refine brD (fun _ => ?_) (fun _ => ?_) | refine brND (fun _ => ?_) (fun _ => ?_) | refine brN (fun _ => ?_) (fun _ => ?_) | refine brI (fun _ => ?_) (fun _ => ?_))
  refine ⟨rfl, ?_⟩
  have hy := freeze_ext w3 b l.length
  exact ⟨hy.os.trans hx.os, hy.tape.trans hx.tape, hy.output.trans hx.output, Nat.le_trans hx.size hy.size, fun i hi hn => (hy.block i (Nat.lt_of_lt_of_le hi hx.size) (by omega)).trans (hx.block i hi hn)⟩
end Go.Proofs.YtgcbcagaibecbaaGreatDoor

namespace Go.Proofs.YtgcbcagaibecbaaGreatDoor
set_option maxRecDepth 20000
open Go Ev Gap
variable [Go.Proofs.YtgcbcagaibecbaaGreatDoor.Gap.Leaps]

structure NumV (w : World) : Prop where
  syn : ∃ e, w.cell? ⟨16, 0, none⟩ = some e ∧ (e = .nilIface ∨ ∃ t p, e = .iface t p)
  rng : ∃ e, w.cell? ⟨17, 0, none⟩ = some e ∧ (e = .nilIface ∨ ∃ t p, e = .iface t p)
theorem NumV.no {w w' : World} (h : NumV w) (hx : Ext No w w') : NumV w' :=
  ⟨h.syn.elim fun e he => ⟨e, hx.cell he.1 id, he.2⟩, h.rng.elim fun e he => ⟨e, hx.cell he.1 id, he.2⟩⟩
theorem syntaxError_ok (f l : List UInt8) (w : World) (hl : l.length ≤ 100000) (hV : NumV w) : CallC Tryz.prog 98 #[.string (bs f), .string (bs l)] w fun v w' => (∃ a, v = .pointer (some a)) ∧ Ext No w w' := by
  have hS := St.start w No
  obtain ⟨e, he, hiv⟩ := hV.syn
  refine fn_intro tabOk Tryz.func98 (by kernel_rfl) rfl Tryz.ntmps98 (Nat.le_of_ble_eq_true rfl) ?_
  (conv => whnf)
  (refine drawS tabOk mixed [] (No) [0, 1, 3, 2, 4, 5, 6] (by kernel_rfl) ?_; rintro w1 rfl; replace hS := hS.drew)
  (conv => whnf)
  refine hS.ldrF he id id ?_
  (conv => whnf)
  refine (clone_ok l _ hl).mono ?_
  rintro v w1 ⟨rfl, hx⟩
  replace hS := hS.no hx
  refine KeepC.mk hx ?_
  rcases hiv with rfl | ⟨t, p, rfl⟩
  · skip
    have hK := Ext.trans (Ext.drawn No w (w.drawn + 1)) hx
    (conv => whnf)
    refine hS.newK hx (fun b w' hK hS => KeepC.mk hK ?_)
    repeat' ((conv => whnf); first | refine RetC.mk ?_ | refine NzC.mk (by decide) ?_ | refine RngC.mk (by omega) (by omega) ?_ | refine IdxC.mk (by omega) (by omega) ?_ | refine brD (fun _ => ?_) (fun _ => ?_) | refine brND (fun _ => ?_) (fun _ => ?_) | refine brN (fun _ => ?_) (fun _ => ?_) | refine brI (fun _ => ?_) (fun _ => ?_))
    exact ⟨⟨_, rfl⟩, hS.ext⟩
  · skip
    have hK := Ext.trans (Ext.drawn No w (w.drawn + 1)) hx
    (conv => whnf)
    refine hS.newK hx (fun b w' hK hS => KeepC.mk hK ?_)
    repeat' ((conv => whnf); first | refine RetC.mk ?_ | refine NzC.mk (by decide) ?_ | refine RngC.mk (by omega) (by omega) ?_ | refine IdxC.mk (by omega) (by omega) ?_ | refine brD (fun _ => ?_) (fun _ => ?_) | refine brND (fun _ => ?_) (fun _ => ?_) | refine brN (fun _ => ?_) (fun _ => ?_) | refine brI (fun _ => ?_) (fun _ => ?_))
    exact ⟨⟨_, rfl⟩, hS.ext⟩
theorem rangeError_ok (f l : List UInt8) (w : World) (hl : l.length ≤ 100000) (hV : NumV w) : CallC Tryz.prog 99 #[.string (bs f), .string (bs l)] w fun v w' => (∃ a, v = .pointer (some a)) ∧ Ext No w w' := by
  have hS := St.start w No
  obtain ⟨e, he, hiv⟩ := hV.rng
  refine fn_intro tabOk Tryz.func99 (by kernel_rfl) rfl Tryz.ntmps99 (Nat.le_of_ble_eq_true rfl) ?_
  (conv => whnf)
  (refine drawS tabOk mixed [] (No) [0, 1, 3, 2, 4, 5, 6] (by kernel_rfl) ?_; rintro w1 rfl; replace hS := hS.drew)
  (conv => whnf)
  refine hS.ldrF he id id ?_
  (conv => whnf)
  refine (clone_ok l _ hl).mono ?_
  rintro v w1 ⟨rfl, hx⟩
  replace hS := hS.no hx
  refine KeepC.mk hx ?_
  rcases hiv with rfl | ⟨t, p, rfl⟩
  · skip
    have hK := Ext.trans (Ext.drawn No w (w.drawn + 1)) hx
    (conv => whnf)
    refine hS.newK hx (fun b w' hK hS => KeepC.mk hK ?_)
    repeat' ((conv => whnf); first | refine RetC.mk ?_ | refine NzC.mk (by decide) ?_ | refine RngC.mk (by omega) (by omega) ?_ | refine IdxC.mk (by omega) (by omega) ?_ | refine brD (fun _ => ?_) (fun _ => ?_) | refine brND (fun _ => ?_) (fun _ => ?_) | refine brN (fun _ => ?_) (fun _ => ?_) | refine brI (fun _ => ?_) (fun _ => ?_))
    exact ⟨⟨_, rfl⟩, hS.ext⟩
  · skip
    have hK := Ext.trans (Ext.drawn No w (w.drawn + 1)) hx
    (conv => whnf)
    refine hS.newK hx (fun b w' hK hS => KeepC.mk hK ?_)
    repeat' ((conv => whnf); first | refine RetC.mk ?_ | refine NzC.mk (by decide) ?_ | refine RngC.mk (by omega) (by omega) ?_ | refine IdxC.mk (by omega) (by omega) ?_ | refine brD (fun _ => ?_) (fun _ => ?_) | refine brND (fun _ => ?_) (fun _ => ?_) | refine brN (fun _ => ?_) (fun _ => ?_) | refine brI (fun _ => ?_) (fun _ => ?_))
    exact ⟨⟨_, rfl⟩, hS.ext⟩
theorem toError_ok (f l : List UInt8) (e : Value) (he : NumE e) (w : World) (hl : l.length ≤ 100000) (hV : NumV w) : CallC Tryz.prog 84 #[.string (bs f), .string (bs l), .int .i64 0, .int .i64 0, e] w fun v w' => (∃ t u, v = .iface t u) ∧ Ext No w w' := by
  refine fn_intro tabOk Tryz.func84 (by kernel_rfl) rfl Tryz.ntmps84 (Nat.le_of_ble_eq_true rfl) ?_
  rcases he with rfl | rfl
  · (conv => whnf)
    refine ifEqI Tryz.underlying26 Tryz.underlying160 errC (r := false) rfl ?_
    (conv => whnf)
    refine ifEqI Tryz.underlying26 Tryz.underlying160 errC (r := true) rfl ?_
    (conv => whnf)
    refine (rangeError_ok f l _ hl hV).mono ?_
    rintro v w1 ⟨⟨a, rfl⟩, hx⟩
    repeat' ((conv => whnf); first | refine RetC.mk ?_ | refine NzC.mk (by decide) ?_ | refine RngC.mk (by omega) (by omega) ?_ | refine IdxC.mk (by omega) (by omega) ?_ | refine brD (fun _ => ?_) (fun _ => ?_) | refine brND (fun _ => ?_) (fun _ => ?_) | refine brN (fun _ => ?_) (fun _ => ?_) | refine brI (fun _ => ?_) (fun _ => ?_))
    exact ⟨⟨_, _, rfl⟩, hx⟩
  · (conv => whnf)
    refine ifEqI Tryz.underlying26 Tryz.underlying160 errC (r := true) rfl ?_
    (conv => whnf)
    refine (syntaxError_ok f l _ hl hV).mono ?_
    rintro v w1 ⟨⟨a, rfl⟩, hx⟩
    repeat' ((conv => whnf); first | refine RetC.mk ?_ | refine NzC.mk (by decide) ?_ | refine RngC.mk (by omega) (by omega) ?_ | refine IdxC.mk (by omega) (by omega) ?_ | refine brD (fun _ => ?_) (fun _ => ?_) | refine brND (fun _ => ?_) (fun _ => ?_) | refine brN (fun _ => ?_) (fun _ => ?_) | refine brI (fun _ => ?_) (fun _ => ?_))
    exact ⟨⟨_, _, rfl⟩, hx⟩
theorem iatoi_ok (l : List UInt8) (w : World) (hl : l.length ≤ 100000) : CallC Tryz.prog 83 #[.string (bs l)] w fun v w' => (∃ n e, v = .tuple #[.int .i64 n, e] ∧ I64 n ∧ (e = .nilIface ∨ NumE e) ∧ (l.length ≤ 18 → (Lib.atoiAll l = .ok n ∧ e = .nilIface) ∨ ((∀ m, Lib.atoiAll l ≠ .ok m) ∧ NumE e))) ∧ Ext No w w' := by
  have hsz := bs_size l
  by_cases hs : l.length ≤ 18
  · have hall := Lib.atoiAll_short l hs
    rcases l with _ | ⟨b0, r⟩
    · have hS := St.start w No
      refine fn_intro tabOk Tryz.func83 (by kernel_rfl) rfl Tryz.ntmps83 (Nat.le_of_ble_eq_true rfl) ?_
      (conv => whnf)
      refine (show CallC Tryz.prog 97 #[.string (bs []), .int .i64 10, .int .i64 0] w fun v w' => v = .tuple #[.int .i64 0, .iface 160 (.int .i64 2)] ∧ w = w' from by
        refine fn_intro tabOk Tryz.func97 (by kernel_rfl) rfl Tryz.ntmps97 (Nat.le_of_ble_eq_true rfl) ?_
        (conv => whnf)
        refine eqS2 ?_
        repeat' ((conv => whnf); first | refine RetC.mk ?_ | refine NzC.mk (by decide) ?_ | refine RngC.mk (by omega) (by omega) ?_ | refine IdxC.mk (by omega) (by omega) ?_ | refine brD (fun _ => ?_) (fun _ => ?_) | refine brND (fun _ => ?_) (fun _ => ?_) | refine brN (fun _ => ?_) (fun _ => ?_) | refine brI (fun _ => ?_) (fun _ => ?_))
        exact ⟨rfl, rfl⟩).mono ?_
      rintro v w1 ⟨rfl, rfl⟩
      repeat' ((conv => whnf); first | refine RetC.mk ?_ | refine NzC.mk (by decide) ?_ | refine RngC.mk (by omega) (by omega) ?_ | refine IdxC.mk (by omega) (by omega) ?_ | refine brD (fun _ => ?_) (fun _ => ?_) | refine brND (fun _ => ?_) (fun _ => ?_) | refine brN (fun _ => ?_) (fun _ => ?_) | refine brI (fun _ => ?_) (fun _ => ?_))
      exact ⟨⟨_, _, rfl, ⟨by decide, by decide⟩, .inr (.inr rfl), fun _ => .inr ⟨(fun m hm => by cases hm), .inr rfl⟩⟩, hS.ext⟩
    have hr : r.length + 1 < 19 := by simp only [List.length_cons] at hs; omega
    by_cases h45 : b0 = 45
    · subst h45
      have ha : Lib.atoi (45 :: r) = (Lib.decNat r).map fun (m : Nat) => -(m : Int) := rfl
      rw [ha] at hall
      refine (fast_minus r hr w).mono ?_
      rintro v w1 ⟨⟨m, hm, hne, rfl⟩ | ⟨hn, rfl⟩, hx⟩
      · have hd : Lib.decNat r = some m := by unfold Lib.decNat; rw [if_neg (by simpa using hne)]; exact hm
        have hb := Lib.decNat_small (by omega) hd
        rw [hd] at hall
        exact ⟨⟨_, _, rfl, ⟨by omega, by omega⟩, .inl rfl, fun _ => .inl ⟨hall, rfl⟩⟩, hx⟩
      · have hd : Lib.decNat r = none := by
          unfold Lib.decNat
          rcases hn with rfl | hn
          · rfl
          · split
            · rfl
            · exact hn
        rw [hd] at hall
        exact ⟨⟨_, _, rfl, ⟨by decide, by decide⟩, .inr (.inr rfl), fun _ => .inr ⟨(fun m hm => by rw [hall] at hm; cases hm), .inr rfl⟩⟩, hx⟩
    by_cases h43 : b0 = 43
    · subst h43
      have ha : Lib.atoi (43 :: r) = (Lib.decNat r).map fun (m : Nat) => (m : Int) := rfl
      rw [ha] at hall
      refine (fast_plus r hr w).mono ?_
      rintro v w1 ⟨⟨m, hm, hne, rfl⟩ | ⟨hn, rfl⟩, hx⟩
      · have hd : Lib.decNat r = some m := by unfold Lib.decNat; rw [if_neg (by simpa using hne)]; exact hm
        have hb := Lib.decNat_small (by omega) hd
        rw [hd] at hall
        exact ⟨⟨_, _, rfl, ⟨by omega, by omega⟩, .inl rfl, fun _ => .inl ⟨hall, rfl⟩⟩, hx⟩
      · have hd : Lib.decNat r = none := by
          unfold Lib.decNat
          rcases hn with rfl | hn
          · rfl
          · split
            · rfl
            · exact hn
        rw [hd] at hall
        exact ⟨⟨_, _, rfl, ⟨by decide, by decide⟩, .inr (.inr rfl), fun _ => .inr ⟨(fun m hm => by rw [hall] at hm; cases hm), .inr rfl⟩⟩, hx⟩
    · have ha : Lib.atoi (b0 :: r) = (Lib.decNat (b0 :: r)).map fun (m : Nat) => (m : Int) := by
        simp [Lib.atoi, h45, h43]
      have hdn : Lib.decNat (b0 :: r) = Lib.decFrom 0 (b0 :: r) := by unfold Lib.decNat; rw [if_neg (by simp)]
      rw [ha, hdn] at hall
      refine (fast_plain b0 r hr h43 h45 w).mono ?_
      rintro v w1 ⟨⟨m, hm, rfl⟩ | ⟨hn, rfl⟩, hx⟩
      · have hb := Lib.decNat_small hs (hdn.trans hm)
        rw [hm] at hall
        exact ⟨⟨_, _, rfl, ⟨by omega, by omega⟩, .inl rfl, fun _ => .inl ⟨hall, rfl⟩⟩, hx⟩
      · rw [hn] at hall
        exact ⟨⟨_, _, rfl, ⟨by decide, by decide⟩, .inr (.inr rfl), fun _ => .inr ⟨(fun m hm => by rw [hall] at hm; cases hm), .inr rfl⟩⟩, hx⟩
  · have hS := St.start w No
    refine fn_intro tabOk Tryz.func83 (by kernel_rfl) rfl Tryz.ntmps83 (Nat.le_of_ble_eq_true rfl) ?_
    (conv => whnf)
    have e1 : decide (0 < (((bs l).size : Nat) : Int)) = true := decide_eq_true (by omega)
    have e2 : decide ((((bs l).size : Nat) : Int) < 19) = false := decide_eq_false (by omega)
    rw [e1]
    (conv => whnf)
    rw [e2]
    (conv => whnf)
    refine (parseInt_ok l (by omega) hl _).mono ?_
    rintro v w1 ⟨⟨n, e, he, h1, h2, rfl⟩, hx⟩
    repeat' ((conv => whnf); first | refine RetC.mk ?_ | refine NzC.mk (by decide) ?_ | refine RngC.mk (by omega) (by omega) ?_ | refine IdxC.mk (by omega) (by omega) ?_ | refine brD (fun _ => ?_) (fun _ => ?_) | refine brND (fun _ => ?_) (fun _ => ?_) | refine brN (fun _ => ?_) (fun _ => ?_) | refine brI (fun _ => ?_) (fun _ => ?_))
    exact ⟨⟨_, _, rfl, ⟨h1, h2⟩, he, fun h => absurd h hs⟩, hx⟩
theorem atoi_ok (l : List UInt8) (w : World) (hl : l.length ≤ 100000) (hV : NumV w) :
    CallC Tryz.prog 65 #[.string (bs l)] w fun v w' => (∃ n e, v = .tuple #[.int .i64 n, e] ∧ I64 n ∧ (e = .nilIface ∨ ∃ t u, e = .iface t u) ∧ (l.length ≤ 18 → (Lib.atoiAll l = .ok n ∧ e = .nilIface) ∨ ((∀ m, Lib.atoiAll l ≠ .ok m) ∧ ∃ t u, e = .iface t u))) ∧ Ext No w w' := by
  refine fn_intro tabOk Tryz.func65 (by kernel_rfl) rfl Tryz.ntmps65 (Nat.le_of_ble_eq_true rfl) ?_
  have hS := St.start w No
  (conv => whnf)
  refine (iatoi_ok l _ hl).mono ?_
  rintro v w1 ⟨⟨n, e, rfl, hn, he, hc⟩, hx⟩
  replace hS := hS.no hx
  rcases he with rfl | he
  · repeat' ((conv => whnf); first | refine RetC.mk ?_ | refine NzC.mk (by decide) ?_ | refine RngC.mk (by omega) (by omega) ?_ | refine IdxC.mk (by omega) (by omega) ?_ | refine brD (fun _ => ?_) (fun _ => ?_) | refine brND (fun _ => ?_) (fun _ => ?_) | refine brN (fun _ => ?_) (fun _ => ?_) | refine brI (fun _ => ?_) (fun _ => ?_))
    exact ⟨⟨_, _, rfl, hn, .inl rfl, fun h => .inl ((hc h).elim id fun h => by rcases h.2 with h | h <;> cases h)⟩, hS.ext⟩
  · have hbad : l.length ≤ 18 → ∀ m, Lib.atoiAll l ≠ .ok m := fun h => (hc h).elim (fun h => by rcases he with rfl | rfl <;> cases h.2) fun h => h.1
    have hte := toError_ok [65, 116, 111, 105] l e he w1 hl (hV.no hS.ext)
    rcases he with rfl | rfl
    · (conv => whnf)
      refine hte.mono ?_
      rintro v w2 ⟨⟨t, u, rfl⟩, hx⟩
      replace hS := hS.no hx
      repeat' ((conv => whnf); first | refine RetC.mk ?_ | refine NzC.mk (by decide) ?_ | refine RngC.mk (by omega) (by omega) ?_ | refine IdxC.mk (by omega) (by omega) ?_ | refine brD (fun _ => ?_) (fun _ => ?_) | refine brND (fun _ => ?_) (fun _ => ?_) | refine brN (fun _ => ?_) (fun _ => ?_) | refine brI (fun _ => ?_) (fun _ => ?_))
      exact ⟨⟨_, _, rfl, hn, .inr ⟨_, _, rfl⟩, fun h => .inr ⟨hbad h, _, _, rfl⟩⟩, hS.ext⟩
    · (conv => whnf)
      refine hte.mono ?_
      rintro v w2 ⟨⟨t, u, rfl⟩, hx⟩
      replace hS := hS.no hx
      repeat' ((conv => whnf); first | refine RetC.mk ?_ | refine NzC.mk (by decide) ?_ | refine RngC.mk (by omega) (by omega) ?_ | refine IdxC.mk (by omega) (by omega) ?_ | refine brD (fun _ => ?_) (fun _ => ?_) | refine brND (fun _ => ?_) (fun _ => ?_) | refine brN (fun _ => ?_) (fun _ => ?_) | refine brI (fun _ => ?_) (fun _ => ?_))
      exact ⟨⟨_, _, rfl, hn, .inr ⟨_, _, rfl⟩, fun h => .inr ⟨hbad h, _, _, rfl⟩⟩, hS.ext⟩
end Go.Proofs.YtgcbcagaibecbaaGreatDoor

namespace Go.Proofs.YtgcbcagaibecbaaGreatDoor
set_option maxRecDepth 20000
open Go Ev
variable [Go.Proofs.YtgcbcagaibecbaaGreatDoor.Gap.Leaps]

theorem numS_atoi {l : List UInt8} {n : Int} (most : Nat) (hm : most ≤ 18) (h : Lib.atoiAll l = .ok n) : ((l.length ≤ most ∧ Lib.itoa n = l) ∧ 0 ≤ n ↔ 0 ≤ numS l most) ∧ (0 ≤ numS l most → n = numS l most) := by
  have key : 0 ≤ numS l most → l.length ≤ most ∧ n = numS l most ∧ Lib.itoa n = l := fun h0 => by
    obtain ⟨h1, h2, h3⟩ := numS_canon h0
    have := atoi_canon h1 (by omega)
    rw [h] at this
    cases this
    exact ⟨h2, h3.symm, canon_itoa h1⟩
  refine ⟨⟨fun ⟨⟨h1, h2⟩, h3⟩ => ?_, fun h0 => ?_⟩, fun h0 => (key h0).2.1⟩
  · have hc := (itoa_canon h3).1
    rw [h2] at hc
    rw [canon_numS hc h1]
    omega
  · obtain ⟨h1, h2, h3⟩ := key h0
    exact ⟨⟨h1, h3⟩, by omega⟩
theorem numS_atoi_none {l : List UInt8} {most : Nat} (hm : most ≤ 18) (h : ∀ m, Lib.atoiAll l ≠ .ok m) : numS l most < 0 := by
  refine Int.not_le.1 fun h0 => ?_
  obtain ⟨h1, h2, _⟩ := numS_canon h0
  exact h _ (atoi_canon h1 (by omega))
end Go.Proofs.YtgcbcagaibecbaaGreatDoor

namespace Go.Proofs.YtgcbcagaibecbaaGreatDoor
set_option maxRecDepth 20000
open Go Ev
variable [Go.Proofs.YtgcbcagaibecbaaGreatDoor.Gap.Leaps]

def idxT (p : List UInt8) : List (List UInt8) → Nat → Int
  | [], _ => -1
  | x :: l, k => if p = x then (k : Int) else idxT p l (k + 1)
theorem idxT_step {p : List UInt8} {l : List (List UInt8)} {k : Nat} {x : List UInt8} (h : l[k]? = some x) : idxT p (l.drop k) k = if p = x then (k : Int) else idxT p (l.drop (k + 1)) (k + 1) := by
  obtain ⟨lt, e⟩ := List.getElem?_eq_some_iff.1 h
  rw [List.drop_eq_getElem_cons lt, e]
  rfl
theorem protoK_idx (p : List UInt8) : protoK p = idxT p [sAny, sUdp, sTcp] 0 := rfl
theorem idxT_ok {w : World} {G : List UInt8 → Prop} {a : Option Addr} {n c : Nat} {xs : List (List UInt8)} (p : List UInt8) (hx : Slc w 1 encT G a n xs) :
    CallC Tryz.prog 36 #[.slice a n c, .string (bs p)] w fun v w' => v = .int .i64 (idxT p xs 0) ∧ Ext No w w' := by
  have hm := hx.max
  have hl := hx.len
  refine fn_intro tabOk Tryz.func36 (by kernel_rfl) rfl Tryz.ntmps36 (Nat.le_of_ble_eq_true rfl) ?_
  have hS := St.start w No
  (conv => whnf)
  refine loopR tabOk (fun σ w' q => ∃ k : Nat, σ = [(8, .int .i64 (k : Int)), (7, .int .i64 n), (1, .string (bs p)), (0, .slice a n c)] ∧ q = n - k ∧ k ≤ n ∧ St w No w' [] ∧ idxT p xs 0 = idxT p (xs.drop k) k)
    (σ' := [(8, .int .i64 ((0 : Nat) : Int)), (7, .int .i64 n), (1, .string (bs p)), (0, .slice a n c)]) (n := n) ⟨rfl, rfl, rfl, rfl, trivial⟩ ⟨0, rfl, rfl, Nat.zero_le _, hS, by simp⟩ ?_
  clear hS
  rintro _ w1 q ⟨k, rfl, rfl, hk, hS, hi⟩
  (conv => whnf)
  refine brD (fun h3 => ?_) (fun h3 => ?_)
  · obtain ⟨b0, o0, x, hxk, hgx, rfl, _, hc⟩ := hx.at (k := k) (by omega)
    have hst := idxT_step (p := p) hxk
    (conv => whnf)
    refine IdxC.mk (by omega) (by omega) ?_
    (conv => whnf)
    refine hS.ldr (hc 0 _ rfl) id ?_
    (conv => whnf)
    refine eqS2 ?_
    (conv => whnf)
    refine brD (fun h4 => ?_) (fun h4 => ?_)
    · repeat' ((conv => whnf); first | refine RetC.mk ?_ | refine NzC.mk (by decide) ?_ | refine RngC.mk (by omega) (by omega) ?_ | refine IdxC.mk (by omega) (by omega) ?_ | refine brD (fun _ => ?_) (fun _ => ?_) | refine brND (fun _ => ?_) (fun _ => ?_) | refine brN (fun _ => ?_) (fun _ => ?_) | refine brI (fun _ => ?_) (fun _ => ?_))
      rw [hi, hst, if_pos h4]
      exact ⟨rfl, hS.ext⟩
    · (conv => whnf)
      refine RngC.mk (by omega) (by omega) ?_
      (conv => whnf)
      refine LoopE.mk ⟨_, [(8, .int .i64 ((k + 1 : Nat) : Int)), (7, _), (1, _), (0, _)], ?_, ⟨rfl, rfl, rfl, rfl, trivial⟩, ⟨k + 1, rfl, rfl, by omega, hS, by rw [hi, hst, if_neg h4]⟩⟩
      omega
  · repeat' ((conv => whnf); first | refine RetC.mk ?_ | refine NzC.mk (by decide) ?_ | refine RngC.mk (by omega) (by omega) ?_ | refine IdxC.mk (by omega) (by omega) ?_ | refine brD (fun _ => ?_) (fun _ => ?_) | refine brND (fun _ => ?_) (fun _ => ?_) | refine brN (fun _ => ?_) (fun _ => ?_) | refine brI (fun _ => ?_) (fun _ => ?_))
    have : k = n := by omega
    subst this
    rw [hi, List.drop_of_length_le (by omega)]
    exact ⟨rfl, hS.ext⟩
theorem protos_slc {w : World} (h : Protos w) : Slc w 1 encT (fun _ => True) (some ⟨12, 0, none⟩) 3 [sAny, sUdp, sTcp] :=
  Slc.of_cells codT rfl (by decide) (fun _ _ => trivial) fun j v hj => ⟨_, _, rfl, h j v hj⟩
theorem atoi_small {l : List UInt8} {n : Int} (hl : l.length ≤ 5) (h : Lib.atoiAll l = .ok n) : -9999 ≤ n ∧ n ≤ 99999 := by
  rw [Lib.atoiAll_short l (by omega)] at h
  have key : ∀ (k : List UInt8) (m : Nat), Lib.decNat k = some m → m < 10 ^ k.length := fun k m hm => by
    have hd : Lib.decFrom 0 k = some m := by
      unfold Lib.decNat at hm
      split at hm
      · cases hm
      · exact hm
    have := Lib.decFrom_lt k 0 m hd
    omega
  rcases l with _ | ⟨b, r⟩
  · cases h
  have hr : r.length ≤ 4 := by simp only [List.length_cons] at hl; omega
  have p4 : (10 : Nat) ^ r.length ≤ 10 ^ 4 := Nat.pow_le_pow_right (by decide) hr
  have p5 : (10 : Nat) ^ (b :: r).length ≤ 10 ^ 5 := Nat.pow_le_pow_right (by decide) hl
  have e4 : (10 : Nat) ^ 4 = 10000 := by decide
  have e5 : (10 : Nat) ^ 5 = 100000 := by decide
  have ha : Lib.atoi (b :: r) = if b == 45 then (Lib.decNat r).map fun (m : Nat) => -(m : Int) else if b == 43 then (Lib.decNat r).map fun (m : Nat) => (m : Int) else (Lib.decNat (b :: r)).map fun (m : Nat) => (m : Int) := rfl
  rw [ha] at h
  split at h
  · cases hd : Lib.decNat r with
    | none => rw [hd] at h; cases h
    | some m =>
      rw [hd] at h
      have := key r m hd
      cases h
      dsimp only
      omega
  · split at h
    · cases hd : Lib.decNat r with
      | none => rw [hd] at h; cases h
      | some m =>
        rw [hd] at h
        have := key r m hd
        cases h
        dsimp only
        omega
    · cases hd : Lib.decNat (b :: r) with
      | none => rw [hd] at h; cases h
      | some m =>
        rw [hd] at h
        have := key (b :: r) m hd
        cases h
        dsimp only
        omega
theorem numS_small {l : List UInt8} (h : 0 ≤ numS l 5) : -9999 ≤ numS l 5 ∧ numS l 5 ≤ 99999 := by
  obtain ⟨h1, h2, h3⟩ := numS_canon h
  rw [h3]
  exact atoi_small h2 (atoi_canon h1 (by omega))
theorem pnumber_ok (l : List UInt8) (w : World) (hl : l.length ≤ 100000) (hV : NumV w) (ht : Pow10 w) :
    CallC Tryz.prog 38 #[.string (bs l)] w fun v w' => (∃ n k, v = .tuple #[.int .i64 n, .bool k] ∧ I64 n ∧ ((k = true ∧ 0 ≤ n) ↔ 0 ≤ numS l 5) ∧ (0 ≤ numS l 5 → n = numS l 5)) ∧ Ext No w w' := by
  refine fn_intro tabOk Tryz.func38 (by kernel_rfl) rfl Tryz.ntmps38 (Nat.le_of_ble_eq_true rfl) ?_
  have hS := St.start w No
  (conv => whnf)
  refine (atoi_ok l w hl hV).mono ?_
  rintro v w1 ⟨⟨n, e, rfl, hn, he, hcase⟩, hx⟩
  replace hS := hS.no hx
  by_cases h18 : l.length ≤ 18
  rotate_left
  · have hneg : numS l 5 < 0 := by
      unfold numS
      rw [if_pos (.inr (.inl (by omega)))]
      decide
    rcases he with rfl | ⟨t, u, rfl⟩
    · (conv => whnf)
      refine brD (fun h5 => ?_) (fun h5 => ?_)
      · exfalso
        have := bs_size l
        omega
      · repeat' ((conv => whnf); first | refine RetC.mk ?_ | refine NzC.mk (by decide) ?_ | refine RngC.mk (by omega) (by omega) ?_ | refine IdxC.mk (by omega) (by omega) ?_ | refine brD (fun _ => ?_) (fun _ => ?_) | refine brND (fun _ => ?_) (fun _ => ?_) | refine brN (fun _ => ?_) (fun _ => ?_) | refine brI (fun _ => ?_) (fun _ => ?_))
        exact ⟨⟨_, _, rfl, hn, ⟨fun h => (by cases h.1), fun h => absurd h (by omega)⟩, fun h => absurd h (by omega)⟩, hS.ext⟩
    · repeat' ((conv => whnf); first | refine RetC.mk ?_ | refine NzC.mk (by decide) ?_ | refine RngC.mk (by omega) (by omega) ?_ | refine IdxC.mk (by omega) (by omega) ?_ | refine brD (fun _ => ?_) (fun _ => ?_) | refine brND (fun _ => ?_) (fun _ => ?_) | refine brN (fun _ => ?_) (fun _ => ?_) | refine brI (fun _ => ?_) (fun _ => ?_))
      exact ⟨⟨_, _, rfl, hn, ⟨fun h => (by cases h.1), fun h => absurd h (by omega)⟩, fun h => absurd h (by omega)⟩, hS.ext⟩
  replace hcase := hcase h18
  rcases hcase with ⟨ha, rfl⟩ | ⟨ha, t, u, rfl⟩
  · obtain ⟨k1, k2⟩ := numS_atoi 5 (by omega) ha
    (conv => whnf)
    refine brD (fun h5 => ?_) (fun h5 => ?_)
    · have h5 : l.length ≤ 5 := by
        have := bs_size l
        omega
      (conv => whnf)
      have hsm := atoi_small h5 ha
      refine (itoa_ok n hsm.1 hsm.2 _ (ht.no hS.ext)).mono ?_
      rintro v w2 ⟨rfl, hx⟩
      replace hS := hS.no hx
      (conv => whnf)
      refine eqS2 ?_
      repeat' ((conv => whnf); first | refine RetC.mk ?_ | refine NzC.mk (by decide) ?_ | refine RngC.mk (by omega) (by omega) ?_ | refine IdxC.mk (by omega) (by omega) ?_ | refine brD (fun _ => ?_) (fun _ => ?_) | refine brND (fun _ => ?_) (fun _ => ?_) | refine brN (fun _ => ?_) (fun _ => ?_) | refine brI (fun _ => ?_) (fun _ => ?_))
      refine ⟨⟨_, _, rfl, hn, ?_, k2⟩, hS.ext⟩
      rw [← k1, decide_eq_true_iff]
      exact ⟨fun h => ⟨⟨h5, h.1⟩, h.2⟩, fun h => ⟨h.1.2, h.2⟩⟩
    · have h5 : ¬ l.length ≤ 5 := by
        have := bs_size l
        omega
      repeat' ((conv => whnf); first | refine RetC.mk ?_ | refine NzC.mk (by decide) ?_ | refine RngC.mk (by omega) (by omega) ?_ | refine IdxC.mk (by omega) (by omega) ?_ | refine brD (fun _ => ?_) (fun _ => ?_) | refine brND (fun _ => ?_) (fun _ => ?_) | refine brN (fun _ => ?_) (fun _ => ?_) | refine brI (fun _ => ?_) (fun _ => ?_))
      refine ⟨⟨_, _, rfl, hn, ?_, k2⟩, hS.ext⟩
      rw [← k1]
      exact ⟨fun h => (by cases h.1), fun h => absurd h.1.1 h5⟩
  · have hneg := numS_atoi_none (most := 5) (by omega) ha
    repeat' ((conv => whnf); first | refine RetC.mk ?_ | refine NzC.mk (by decide) ?_ | refine RngC.mk (by omega) (by omega) ?_ | refine IdxC.mk (by omega) (by omega) ?_ | refine brD (fun _ => ?_) (fun _ => ?_) | refine brND (fun _ => ?_) (fun _ => ?_) | refine brN (fun _ => ?_) (fun _ => ?_) | refine brI (fun _ => ?_) (fun _ => ?_))
    exact ⟨⟨_, _, rfl, hn, ⟨fun h => (by cases h.1), fun h => absurd h (by omega)⟩, fun h => absurd h (by omega)⟩, hS.ext⟩
theorem cut_small (l : List UInt8) (c : UInt8) : ∃ x y k, Lib.cut l [c] = (x, y, k) ∧ x.length ≤ l.length ∧ y.length ≤ l.length := by
  unfold Lib.cut
  split
  · exact ⟨_, _, _, rfl, by rw [List.length_take]; omega, by rw [List.length_drop]; omega⟩
  · exact ⟨_, _, _, rfl, Nat.le_refl _, by simp⟩
theorem ruleOfS_is {s a b p n x y : List UInt8} {k : Bool} {q : RuleS} (hw : cutR 32 s = [a, b, p, n]) (hc : Lib.cut n [45] = (x, y, k)) (h : ruleOfS s = some q) : (⟨decide (a = sAllow), decide (b = sOut), protoK p, numS x 5, numS y 5⟩ : RuleS) = q := by
  unfold ruleOfS at h
  rw [hw] at h
  dsimp only at h
  split at h
  · split at h
    · rename_i x' y' hn
      have hcut := cut_two hn
      rw [Lib.join_one, hc] at hcut
      obtain ⟨e1, e2⟩ := Prod.mk.inj hcut
      obtain ⟨e2, _⟩ := Prod.mk.inj e2
      subst e1 e2
      split at h
      · exact Option.some.inj h
      · cases h
    · cases h
  · cases h
theorem pread_ok (s : List UInt8) (w : World) (hl : s.length ≤ 100000) (hM : MaxL w) (hV : NumV w) (ht : Pow10 w) (hP : Protos w) :
    CallC Tryz.prog 23 #[.string (bs s)] w fun v w' => (∃ r k, v = .tuple #[.agg (encRule r).toArray, .bool k] ∧ (ruleOfS s = if k = true then some r else none)) ∧ Ext No w w' := by
  refine fn_intro tabOk Tryz.func23 (by kernel_rfl) rfl Tryz.ntmps23 (Nat.le_of_ble_eq_true rfl) ?_
  have hS := St.start w No
  (conv => whnf)
  refine hS.new (fun b2 w' hb2 hS => ?_)
  replace hS : St w No w' [blk b2 41 (encRule noRule)] := hS
  (conv => whnf)
  refine (split_ok s 32 _ hl (hM.no hS.ext)).mono ?_
  rintro v w1 ⟨⟨b, rfl, hb, hB⟩, hx⟩
  replace hS := hS.made hx (blk_local _ _ _) hB (by intro c hc; obtain rfl := List.mem_singleton.1 hc; exact ⟨hb, hB.lt⟩)
  (conv => whnf)
  refine brND (fun h4 => ?_) (fun h4 => ?_)
  · have h4 : (cutR 32 s).length ≠ 4 := by omega
    (conv => whnf)
    refine hS.st 0 rfl (Nat.le_of_ble_eq_true rfl) rfl (fun w' hS => ?_)
    replace hS : St w No w' [blk b2 41 (encRule noRule), blk b 9 ((cutR 32 s).map fun l => .string (bs l))] := hS
    (conv => whnf)
    refine hS.laX 0 rfl rfl ?_
    repeat' ((conv => whnf); first | refine RetC.mk ?_ | refine NzC.mk (by decide) ?_ | refine RngC.mk (by omega) (by omega) ?_ | refine IdxC.mk (by omega) (by omega) ?_ | refine brD (fun _ => ?_) (fun _ => ?_) | refine brND (fun _ => ?_) (fun _ => ?_) | refine brN (fun _ => ?_) (fun _ => ?_) | refine brI (fun _ => ?_) (fun _ => ?_))
    exact ⟨⟨noRule, false, rfl, ruleOfS_words h4⟩, hS.ext⟩
  obtain ⟨a, b4, p, n, hw⟩ := words4 (s := s) (by omega)
  have hlen := cutR_len 32 s
  rw [hw] at hS ⊢
  have hl4 : ([a, b4, p, n] : List (List UInt8)).length = 4 := rfl
  replace hS : St w No w1 [blk b2 41 (encRule noRule), blk b 9 [.string (bs a), .string (bs b4), .string (bs p), .string (bs n)]] := hS
  (conv => whnf)
  (refine drawS tabOk mixed [] (No) [0, 1, 2, 3, 4, 5] (by kernel_rfl) ?_; rintro w1 rfl; replace hS := hS.drew)
  (conv => whnf)
  refine IdxC.mk (by omega) (by omega) ?_
  (conv => whnf)
  refine hS.ldF 1 rfl rfl id ?_
  (conv => whnf)
  refine (idxT_ok p (protos_slc (hP.no hS.ext))).mono ?_
  rintro v w2 ⟨rfl, hx⟩
  replace hS := hS.no hx
  refine KeepC.mk hx ?_
  rw [← protoK_idx]
  clear hx
  (conv => whnf)
  refine IdxC.mk (by omega) (by omega) ?_
  (conv => whnf)
  refine hS.ld 1 rfl rfl ?_
  have hjn := join_cutR 32 s
  have hnl : n.length ≤ s.length := by
    rw [← hjn, hw]
    simp only [join_cc, Lib.join_one, List.length_append]
    omega
  obtain ⟨x, y, k, hcut, hxl, hyl⟩ := cut_small n 45
  (conv => whnf)
  refine (cutT_ok n 45 _ (by omega) (hM.no hS.ext)).mono ?_
  rintro v w3 ⟨rfl, hx⟩
  replace hS := hS.no hx
  rw [hcut]
  clear hx
  (conv => whnf)
  refine (pnumber_ok x _ (by omega) (hV.no hS.ext) (ht.no hS.ext)).mono ?_
  rintro v w4 ⟨⟨n1, k1, rfl, i1, c1, e1⟩, hx⟩
  replace hS := hS.no hx
  clear hx
  (conv => whnf)
  refine (pnumber_ok y _ (by omega) (hV.no hS.ext) (ht.no hS.ext)).mono ?_
  rintro v w5 ⟨⟨n2, k2, rfl, i2, c2, e2⟩, hx⟩
  replace hS := hS.no hx
  clear hx
  (conv => whnf)
  refine brD (fun h1 => ?_) (fun h1 => ?_)
  · skip
    (conv => whnf)
    refine hS.st 0 rfl (Nat.le_of_ble_eq_true rfl) rfl (fun w' hS => ?_)
    replace hS : St w No w' [blk b2 41 (encRule noRule), blk b 9 [.string (bs a), .string (bs b4), .string (bs p), .string (bs n)]] := hS
    (conv => whnf)
    refine hS.laX 0 rfl rfl ?_
    repeat' ((conv => whnf); first | refine RetC.mk ?_ | refine NzC.mk (by decide) ?_ | refine RngC.mk (by omega) (by omega) ?_ | refine IdxC.mk (by omega) (by omega) ?_ | refine brD (fun _ => ?_) (fun _ => ?_) | refine brND (fun _ => ?_) (fun _ => ?_) | refine brN (fun _ => ?_) (fun _ => ?_) | refine brI (fun _ => ?_) (fun _ => ?_))
    exact ⟨⟨noRule, false, rfl, ruleOfS_none hw hcut (.inl h1)⟩, hS.ext⟩
  cases k1 with
  | false =>
    have h2 : numS x 5 < 0 := Int.not_le.1 fun h => (by cases (c1.2 h).1)
    (conv => whnf)
    refine hS.st 0 rfl (Nat.le_of_ble_eq_true rfl) rfl (fun w' hS => ?_)
    replace hS : St w No w' [blk b2 41 (encRule noRule), blk b 9 [.string (bs a), .string (bs b4), .string (bs p), .string (bs n)]] := hS
    (conv => whnf)
    refine hS.laX 0 rfl rfl ?_
    repeat' ((conv => whnf); first | refine RetC.mk ?_ | refine NzC.mk (by decide) ?_ | refine RngC.mk (by omega) (by omega) ?_ | refine IdxC.mk (by omega) (by omega) ?_ | refine brD (fun _ => ?_) (fun _ => ?_) | refine brND (fun _ => ?_) (fun _ => ?_) | refine brN (fun _ => ?_) (fun _ => ?_) | refine brI (fun _ => ?_) (fun _ => ?_))
    exact ⟨⟨noRule, false, rfl, ruleOfS_none hw hcut (.inr (.inl h2))⟩, hS.ext⟩
  | true =>
  cases k2 with
  | false =>
    have h2 : numS y 5 < 0 := Int.not_le.1 fun h => (by cases (c2.2 h).1)
    (conv => whnf)
    refine hS.st 0 rfl (Nat.le_of_ble_eq_true rfl) rfl (fun w' hS => ?_)
    replace hS : St w No w' [blk b2 41 (encRule noRule), blk b 9 [.string (bs a), .string (bs b4), .string (bs p), .string (bs n)]] := hS
    (conv => whnf)
    refine hS.laX 0 rfl rfl ?_
    repeat' ((conv => whnf); first | refine RetC.mk ?_ | refine NzC.mk (by decide) ?_ | refine RngC.mk (by omega) (by omega) ?_ | refine IdxC.mk (by omega) (by omega) ?_ | refine brD (fun _ => ?_) (fun _ => ?_) | refine brND (fun _ => ?_) (fun _ => ?_) | refine brN (fun _ => ?_) (fun _ => ?_) | refine brI (fun _ => ?_) (fun _ => ?_))
    exact ⟨⟨noRule, false, rfl, ruleOfS_none hw hcut (.inr (.inr h2))⟩, hS.ext⟩
  | true =>
  (conv => whnf)
  refine brD (fun h2 => ?_) (fun h2 => ?_)
  · have h3 : numS x 5 < 0 := Int.not_le.1 fun h => absurd (c1.2 h).2 (by omega)
    (conv => whnf)
    refine hS.st 0 rfl (Nat.le_of_ble_eq_true rfl) rfl (fun w' hS => ?_)
    replace hS : St w No w' [blk b2 41 (encRule noRule), blk b 9 [.string (bs a), .string (bs b4), .string (bs p), .string (bs n)]] := hS
    (conv => whnf)
    refine hS.laX 0 rfl rfl ?_
    repeat' ((conv => whnf); first | refine RetC.mk ?_ | refine NzC.mk (by decide) ?_ | refine RngC.mk (by omega) (by omega) ?_ | refine IdxC.mk (by omega) (by omega) ?_ | refine brD (fun _ => ?_) (fun _ => ?_) | refine brND (fun _ => ?_) (fun _ => ?_) | refine brN (fun _ => ?_) (fun _ => ?_) | refine brI (fun _ => ?_) (fun _ => ?_))
    exact ⟨⟨noRule, false, rfl, ruleOfS_none hw hcut (.inr (.inl h3))⟩, hS.ext⟩
  (conv => whnf)
  refine brD (fun h3 => ?_) (fun h3 => ?_)
  · have h4 : numS y 5 < 0 := Int.not_le.1 fun h => absurd (c2.2 h).2 (by omega)
    (conv => whnf)
    refine hS.st 0 rfl (Nat.le_of_ble_eq_true rfl) rfl (fun w' hS => ?_)
    replace hS : St w No w' [blk b2 41 (encRule noRule), blk b 9 [.string (bs a), .string (bs b4), .string (bs p), .string (bs n)]] := hS
    (conv => whnf)
    refine hS.laX 0 rfl rfl ?_
    repeat' ((conv => whnf); first | refine RetC.mk ?_ | refine NzC.mk (by decide) ?_ | refine RngC.mk (by omega) (by omega) ?_ | refine IdxC.mk (by omega) (by omega) ?_ | refine brD (fun _ => ?_) (fun _ => ?_) | refine brND (fun _ => ?_) (fun _ => ?_) | refine brN (fun _ => ?_) (fun _ => ?_) | refine brI (fun _ => ?_) (fun _ => ?_))
    exact ⟨⟨noRule, false, rfl, ruleOfS_none hw hcut (.inr (.inr h4))⟩, hS.ext⟩
  have g1 : 0 ≤ numS x 5 := c1.1 ⟨rfl, by omega⟩
  have g2 : 0 ≤ numS y 5 := c2.1 ⟨rfl, by omega⟩
  obtain rfl := e1 g1
  obtain rfl := e2 g2
  have hiff := ruleOfS_some hw hcut (by omega) g1 g2
  generalize hr : (⟨decide (a = sAllow), decide (b4 = sOut), protoK p, numS x 5, numS y 5⟩ : RuleS) = r at hiff
  have hp2 := (protoK_b (p := p) (by omega)).2
  (conv => whnf)
  (refine drawS tabOk mixed [] ((· ≠ b)) [0, 1, 2, 3, 4, 5, 6, 7, 8, 9, 10, 11, 12, 13] (by kernel_rfl) ?_; rintro w1 rfl; replace hS := hS.drew)
  have hK := hS.ref (· ≠ b)
  (conv => whnf)
  refine IdxC.mk (by omega) (by omega) ?_
  (conv => whnf)
  refine hS.ldF 1 rfl rfl (fun h => h rfl) ?_
  (conv => whnf)
  refine eqS2 ?_
  (conv => whnf)
  refine IdxC.mk (by omega) (by omega) ?_
  (conv => whnf)
  refine hS.ldF 1 rfl rfl (fun h => h rfl) ?_
  (conv => whnf)
  refine eqS2 ?_
  (conv => whnf)
  refine hS.newK hK (fun b13 w' hK hS => KeepC.mk hK ?_)
  (conv => whnf)
  refine hS.stK hK 2 rfl (Nat.le_of_ble_eq_true rfl) rfl (hS.ne 2 1 rfl rfl (by decide)) (fun w' hK hS => KeepC.mk hK ?_)
  replace hS : St w No w' [blk b2 41 (encRule noRule), blk b 9 [.string (bs a), .string (bs b4), .string (bs p), .string (bs n)], blk b13 41 (encRule r)] := by
    rw [← hr]
    exact hS
  clear hK
  (conv => whnf)
  (refine drawS tabOk mixed [] ((· = b2)) [0, 1, 3, 2, 4, 5, 6] (by kernel_rfl) ?_; rintro w1 rfl; replace hS := hS.drew)
  have hK := hS.ref (· = b2)
  (conv => whnf)
  refine hS.laXF 2 rfl rfl (hS.ne 2 0 rfl rfl (by decide)) ?_
  (conv => whnf)
  refine hS.laXF 2 rfl rfl (hS.ne 2 0 rfl rfl (by decide)) ?_
  have hnum : NumR r ∧ 0 ≤ r.proto ∧ r.proto ≤ 2 := by
    rw [← hr]
    exact ⟨⟨numS_small g1, numS_small g2⟩, by dsimp only; omega, hp2⟩
  (conv => whnf)
  refine (line_ok r hnum.1 hnum.2 _ (ht.no hS.ext) (hP.no hS.ext)).mono ?_
  rintro v w6 ⟨rfl, hx⟩
  replace hS := hS.no hx
  replace hK := hK.trans hx.of_no
  refine KeepC.mk hK ?_
  clear hx
  (conv => whnf)
  refine eqS2 ?_
  (conv => whnf)
  refine hS.stK hK 0 rfl (Nat.le_of_ble_eq_true rfl) rfl rfl (fun w' hK hS => KeepC.mk hK ?_)
  replace hS : St w No w' [blk b2 41 (encRule r), blk b 9 [.string (bs a), .string (bs b4), .string (bs p), .string (bs n)], blk b13 41 (encRule r)] := hS
  (conv => whnf)
  refine hS.laX 0 rfl rfl ?_
  repeat' ((conv => whnf); first | refine RetC.mk ?_ | refine NzC.mk (by decide) ?_ | refine RngC.mk (by omega) (by omega) ?_ | refine IdxC.mk (by omega) (by omega) ?_ | refine brD (fun _ => ?_) (fun _ => ?_) | refine brND (fun _ => ?_) (fun _ => ?_) | refine brN (fun _ => ?_) (fun _ => ?_) | refine brI (fun _ => ?_) (fun _ => ?_))
  refine ⟨⟨r, _, rfl, ?_⟩, hS.ext⟩
  by_cases h : r.line = s
  · rw [if_pos (decide_eq_true h), hiff.1 h]
  · rw [if_neg (fun e => h (of_decide_eq_true e))]
    cases ho : ruleOfS s with
    | none => rfl
    | some q =>
      exfalso
      obtain rfl := ruleOfS_is hw hcut ho
      exact h (hiff.2 (by rw [ho, hr]))
theorem join_mem_len {w sep : List UInt8} : ∀ (ws : List (List UInt8)), w ∈ ws → w.length ≤ (Lib.join ws sep).length
  | [], h => by cases h
  | [x], h => by
    obtain rfl := List.mem_singleton.1 h
    rw [Lib.join_one]
    exact Nat.le_refl _
  | x :: y :: r, h => by
    rw [join_cc, List.length_append, List.length_append]
    rcases List.mem_cons.1 h with rfl | h
    · omega
    · have := join_mem_len (w := w) (sep := sep) (y :: r) h
      omega
theorem cutR_mem_len {c : UInt8} {l w : List UInt8} (h : w ∈ cutR c l) : w.length ≤ l.length := by
  have := join_mem_len (sep := [c]) _ h
  rwa [join_cutR] at this
theorem rulesOfL_step {ts : List (List UInt8)} {k : Nat} {t : List UInt8} (h : ts[k]? = some t) : rulesOfL (ts.drop k) k = match ruleOfS t with
    | some r => (r :: (rulesOfL (ts.drop (k + 1)) (k + 1)).1, (rulesOfL (ts.drop (k + 1)) (k + 1)).2)
    | none => ([], some k) := by
  obtain ⟨lt, e⟩ := List.getElem?_eq_some_iff.1 h
  rw [List.drop_eq_getElem_cons lt, e]
  rfl
theorem trimN_len (s : List UInt8) : (trimN s).length ≤ s.length := by
  unfold trimN
  split
  · rw [List.length_dropLast]
    omega
  · exact Nat.le_refl _
theorem nilR_holds (w : World) : (ownL 41 5 encRule (.slice none 0 0) []).holds w := own_nil _ _ _
theorem preads_ok {E : Nat → Addr} {q : Nat} (s : List UInt8) (w : World) (hl : s.length ≤ 100000) (hM : MaxL w) (hV : NumV w) (ht : Pow10 w) (hP : Protos w) (hE : ErrC w E q [1, 2]) :
    CallC Tryz.prog 9 #[.string (bs s)] w fun v w' => (∃ a c e, v = .tuple #[.slice a (rulesOfS s).1.length c, e] ∧ FaultV E w w' e (rulesOfS s).2.1 (rulesOfS s).2.2 ∧ (ownL 41 5 encRule (.slice a (rulesOfS s).1.length c) (rulesOfS s).1).holds w' ∧ Fresh w w' (.slice a (rulesOfS s).1.length c)) ∧ Ext No w w' := by
  have hsz := bs_size s
  refine fn_intro tabOk Tryz.func9 (by kernel_rfl) rfl Tryz.ntmps9 (Nat.le_of_ble_eq_true rfl) ?_
  have hS := St.start w No
  unfold rulesOfS
  (conv => whnf)
  refine brD (fun h1 => ?_) (fun h1 => ?_)
  · rw [if_pos (by omega)]
    repeat' ((conv => whnf); first | refine RetC.mk ?_ | refine NzC.mk (by decide) ?_ | refine RngC.mk (by omega) (by omega) ?_ | refine IdxC.mk (by omega) (by omega) ?_ | (refine drawS tabOk mixed [] (No) [0, 1, 2] (by kernel_rfl) ?_; rintro w1 rfl; replace hS := hS.drew) | refine hS.ldr (hE.at_ 2 rfl) id ?_ | refine hS.ldrF (hE.at_ 2 rfl) id id ?_ | refine brD (fun _ => ?_) (fun _ => ?_) | refine brND (fun _ => ?_) (fun _ => ?_) | refine brN (fun _ => ?_) (fun _ => ?_) | refine brI (fun _ => ?_) (fun _ => ?_))
    exact ⟨⟨none, 0, _, rfl, .inl ⟨rfl, rfl⟩, nilR_holds _, fun g hg => by cases hg⟩, hS.ext⟩
  rw [if_neg (by omega)]
  (conv => whnf)
  refine eqS2 ?_
  (conv => whnf)
  refine brD (fun h2 => ?_) (fun h2 => ?_)
  · rw [if_pos h2]
    repeat' ((conv => whnf); first | refine RetC.mk ?_ | refine NzC.mk (by decide) ?_ | refine RngC.mk (by omega) (by omega) ?_ | refine IdxC.mk (by omega) (by omega) ?_ | refine brD (fun _ => ?_) (fun _ => ?_) | refine brND (fun _ => ?_) (fun _ => ?_) | refine brN (fun _ => ?_) (fun _ => ?_) | refine brI (fun _ => ?_) (fun _ => ?_))
    exact ⟨⟨none, 0, _, rfl, .inl ⟨rfl, rfl⟩, nilR_holds _, fun g hg => by cases hg⟩, hS.ext⟩
  rw [if_neg h2]
  have htl := trimN_len s
  (conv => whnf)
  refine (trim_ok s _ hl).mono ?_
  rintro v w1 ⟨rfl, hx⟩
  replace hS := hS.no hx
  clear hx
  (conv => whnf)
  refine (split_ok (trimN s) 10 _ (by omega) (hM.no hS.ext)).mono ?_
  rintro v w2 ⟨⟨b, rfl, hb, hB⟩, hx⟩
  replace hS := hS.made hx (blk_local _ _ _) hB (by intro c hc; obtain rfl := List.mem_singleton.1 hc; exact ⟨hb, hB.lt⟩)
  clear hx hB hb
  have hcl := cutR_len 10 (trimN s)
  have hmem : ∀ t ∈ cutR 10 (trimN s), t.length ≤ 100000 := fun t h => by
    have := cutR_mem_len h
    omega
  generalize hts : cutR 10 (trimN s) = ts at hS hcl hmem ⊢
  obtain ⟨n, hn⟩ : ∃ n, n = ts.length := ⟨_, rfl⟩
  rw [← hn]
  have hS := hS.add (ownL_local (e := 41) (enc := encRule) (sz := 5) (v := .slice none 0 0) (xs := [])) (nilR_holds _) (by simp [ownL, own, Value.ownBlock]) (by simp [ownL, own, Value.ownBlock])
  (conv => whnf)
  refine loopR tabOk (fun σ w' q => ∃ (k : Nat) (a : Option Addr) (c : Nat) (rs : List RuleS), σ = [(20, .int .i64 (k : Int)), (19, .int .i64 (n : Int)), (18, .slice (some ⟨b, 0, none⟩) n n), (4, .slice a k c)] ∧ q = n - k ∧ k ≤ n ∧ rs.length = k ∧ rulesOfL ts 0 = (rs ++ (rulesOfL (ts.drop k) k).1, (rulesOfL (ts.drop k) k).2) ∧ St w No w' [blk b 9 (ts.map fun l => .string (bs l)), ownL 41 5 encRule (.slice a k c) rs])
    (σ' := [(20, .int .i64 ((0 : Nat) : Int)), (19, .int .i64 (n : Int)), (18, .slice (some ⟨b, 0, none⟩) n n), (4, .slice none 0 0)]) (n := n) ⟨rfl, rfl, rfl, rfl, trivial⟩ ⟨0, none, 0, [], rfl, rfl, Nat.zero_le _, rfl, rfl, hS⟩ ?_
  clear hS
  rintro _ w1 q ⟨k, a, c, rs, rfl, rfl, hk, hrs, hi, hS⟩
  (conv => whnf)
  refine brD (fun h3 => ?_) (fun h3 => ?_)
  · have hkn : k < ts.length := by omega
    have hat := List.getElem?_eq_getElem hkn
    generalize ts[k] = t at hat
    have hst := rulesOfL_step hat
    have htl := hmem t (List.mem_of_getElem? hat)
    have hcell : (ts.map fun l => Value.string (bs l))[0 + k * 1]? = some (.string (bs t)) := by
      rw [Nat.zero_add, Nat.mul_one, List.getElem?_map, hat]
      rfl
    (conv => whnf)
    refine IdxC.mk (by omega) (by omega) ?_
    (conv => whnf)
    refine hS.ld 0 rfl hcell ?_
    (conv => whnf)
    refine (pread_ok t _ htl (hM.no hS.ext) (hV.no hS.ext) (ht.no hS.ext) (hP.no hS.ext)).mono ?_
    rintro v w3 ⟨⟨r, kk, rfl, hr⟩, hx⟩
    replace hS := hS.no hx
    clear hx
    (conv => whnf)
    refine hS.new (fun b7 w' hb7 hS => ?_)
    (conv => whnf)
    refine hS.st 2 rfl (Nat.le_of_ble_eq_true rfl) rfl (fun w' hS => ?_)
    replace hS : St w No w' [blk b 9 (ts.map fun l => .string (bs l)), ownL 41 5 encRule (.slice a k c) rs, blk b7 41 (encRule r)] := hS
    cases kk with
    | false =>
      rw [if_neg (by simp)] at hr
      rw [hr] at hst
      have e1 : (rulesOfL ts 0).2 = some k := by rw [hi, hst]
      rw [e1]
      (conv => whnf)
      (refine drawS tabOk mixed [] (No) [0, 1, 2, 5, 3, 4, 6] (by kernel_rfl) ?_; rintro w1 rfl; replace hS := hS.drew)
      (conv => whnf)
      refine hS.ldrF (hE.at_ 1 rfl) id id ?_
      (conv => whnf)
      refine hS.newK (hS.ref No) (fun f w' hK hS => KeepC.mk hK ?_)
      have hf := hS.fresh 3 rfl
      repeat' ((conv => whnf); first | refine RetC.mk ?_ | refine NzC.mk (by decide) ?_ | refine RngC.mk (by omega) (by omega) ?_ | refine IdxC.mk (by omega) (by omega) ?_ | refine brD (fun _ => ?_) (fun _ => ?_) | refine brND (fun _ => ?_) (fun _ => ?_) | refine brN (fun _ => ?_) (fun _ => ?_) | refine brI (fun _ => ?_) (fun _ => ?_))
      exact ⟨⟨none, 0, _, rfl, .inr ⟨by dsimp only; omega, by dsimp only; omega, f, rfl, hf, hS.blk 3 rfl⟩, nilR_holds _, fun g hg => by cases hg⟩, hS.ext⟩
    | true =>
      rw [if_pos rfl] at hr
      rw [hr] at hst
      dsimp only at hst
      (conv => whnf)
      refine hS.laX 2 rfl rfl ?_
      (conv => whnf)
      refine hS.lit (cs := encRule r) Tryz.underlying32 (sz := 5) (by kernel_rfl) (z := .agg (encRule noRule).toArray) (by kernel_rfl) rfl rfl (by rfl) (fun bl w' hbl hS => ?_)
      have hx : Slc w' 5 encRule (fun _ => True) (some ⟨bl, 0, none⟩) 1 [r] := Slc.of_blk codRule (hS.blk 3 rfl) rfl (by decide) (fun _ _ => trivial) rfl
      (conv => whnf)
      refine hS.appS codRule 1 Tryz.underlying32 (bytes := 32) (by kernel_rfl) (z := .agg (encRule noRule).toArray) (by kernel_rfl) rfl rfl hx (by unfold maxLen; omega) (by omega) (fun a2 c2 w' hS => ?_)
      rw [hrs] at hS ⊢
      replace hS : St w No w' [blk b 9 (ts.map fun l => .string (bs l)), ownL 41 5 encRule (.slice a2 (k + 1) c2) (rs ++ [r]), blk b7 41 (encRule r), blk bl 41 (encRule r)] := hS
      (conv => whnf)
      refine RngC.mk (by omega) (by omega) ?_
      (conv => whnf)
      refine LoopE.mk ⟨_, [(20, .int .i64 ((k + 1 : Nat) : Int)), (19, _), (18, _), (4, _)], ?_, ⟨rfl, rfl, rfl, rfl, trivial⟩, ⟨k + 1, a2, c2, rs ++ [r], rfl, rfl, by omega, by rw [List.length_append, hrs]; rfl, by rw [hi, hst]; simp, hS.keep 2⟩⟩
      omega
  · obtain rfl : k = n := by omega
    rw [List.drop_of_length_le (by omega)] at hi
    have e1 : rulesOfL ts 0 = (rs, none) := by
      rw [hi]
      simp [rulesOfL]
    rw [e1]
    dsimp only
    have hx := ownL_slc (G := fun _ => True) codRule (hS.get 1 rfl) fun _ _ => trivial
    (conv => whnf)
    refine (rcheck_ok hx ((hE.sub rfl).ext hS.ext fun _ h => h.elim)).mono ?_
    rintro v w3 ⟨hf, hx'⟩
    have hle := hS.ext.size
    replace hS := hS.no hx'
    have hcd := fault_code rs
    generalize faultL rs = F at hf hcd ⊢
    obtain ⟨fc, fa⟩ := F
    dsimp only at hf hcd ⊢
    cases fc with
    | succ j =>
      rw [if_pos (by omega)]
      obtain ⟨t, u, rfl⟩ := hf.ne
      repeat' ((conv => whnf); first | refine RetC.mk ?_ | refine NzC.mk (by decide) ?_ | refine RngC.mk (by omega) (by omega) ?_ | refine IdxC.mk (by omega) (by omega) ?_ | refine brD (fun _ => ?_) (fun _ => ?_) | refine brND (fun _ => ?_) (fun _ => ?_) | refine brN (fun _ => ?_) (fun _ => ?_) | refine brI (fun _ => ?_) (fun _ => ?_))
      exact ⟨⟨none, 0, _, rfl, hf.older hle, nilR_holds _, fun g hg => by cases hg⟩, hS.ext⟩
    | zero =>
      rw [if_neg (by omega)]
      obtain rfl : v = .nilIface := by
        rcases hf with ⟨_, h⟩ | ⟨_, h, _⟩
        · exact h
        · omega
      repeat' ((conv => whnf); first | refine RetC.mk ?_ | refine NzC.mk (by decide) ?_ | refine RngC.mk (by omega) (by omega) ?_ | refine IdxC.mk (by omega) (by omega) ?_ | refine brD (fun _ => ?_) (fun _ => ?_) | refine brND (fun _ => ?_) (fun _ => ?_) | refine brN (fun _ => ?_) (fun _ => ?_) | refine brI (fun _ => ?_) (fun _ => ?_))
      rw [← hrs]
      exact ⟨⟨a, c, _, rfl, .inl ⟨rfl, rfl⟩, by rw [hrs]; exact hS.get 1 rfl, by rw [hrs]; exact hS.freshAt 1 rfl⟩, hS.ext⟩
end Go.Proofs.YtgcbcagaibecbaaGreatDoor
