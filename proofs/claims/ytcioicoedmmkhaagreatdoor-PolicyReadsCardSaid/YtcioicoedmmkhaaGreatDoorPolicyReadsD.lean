/-
  Texts of this claim, joined: RefReadC, RefReadD, RefReadE, PolicyLaw, LawS, PolicyReads.
-/
import Derived.Test.YtcioicoedmmkhaaGreatDoorPolicyReadsC
import Derived.Shelf.Vars
import Derived.Lay
import Derived.LaidHandle

namespace Go.Proofs.YtcioicoedmmkhaaGreatDoor
open Go Ev
theorem ownT_some {w : World} {a : Option Addr} {n c : Nat} {xs : List (List UInt8)} (h : (ownL 9 1 encT (.slice a n c) xs).holds w) (hn : xs ≠ []) : ∃ b, a = some ⟨b, 0, none⟩ := by
  obtain ⟨h1, ⟨h2, h3⟩ | ⟨g, cap, cur, h2, _⟩⟩ := h
  · exact absurd (List.eq_nil_of_length_eq_zero h3) hn
  · cases h2
    exact ⟨g, rfl⟩
theorem ownT_cell {w : World} {b n c j : Nat} {xs : List (List UInt8)} {x : List UInt8} (h : (ownL 9 1 encT (.slice (some ⟨b, 0, none⟩) n c) xs).holds w) (hj : xs[j]? = some x) : w.cell? ⟨b, 0 + j * 1, none⟩ = some (.string (bs x)) := by
  have hn := (ownL_slc (G := fun _ => True) codT h fun _ _ => trivial).len
  have hlt := (List.getElem?_eq_some_iff.1 hj).1
  obtain ⟨b', o', x', h1, _, h2, _, h3⟩ := (ownL_slc (G := fun _ => True) codT h fun _ _ => trivial).at (k := j) (by omega)
  cases h2
  rw [hj] at h1
  cases h1
  exact h3 0 _ rfl
theorem ownT_ne {w0 w : World} {H : List Ent} (h : St w0 No w H) (i j : Nat) {b c n d : Nat} {t : TypeId} {cs : List Value} {xs : List (List UInt8)} (hi : H[i]? = some (blk c t cs)) (hj : H[j]? = some (ownL 9 1 encT (.slice (some ⟨b, 0, none⟩) n d) xs)) (hne : i ≠ j) : c ≠ b := fun e =>
  h.apartAt i j hi hj hne c (List.mem_singleton.2 rfl) (by simp [ownL, own, Value.ownBlock, e])
theorem ruleOfS_bad {s a b p n : List UInt8} (hw : cutR 32 s = [a, b, p, n]) (h : ¬ ((a = sAllow ∨ a = sDeny) ∧ (b = sOut ∨ b = sIn) ∧ 0 ≤ protoK p)) : ruleOfS s = none := by
  unfold ruleOfS
  rw [hw]
  dsimp only
  rw [if_neg h]
theorem ruleOfS_bad2 {s a b p n : List UInt8} (hw : cutR 32 s = [a, b, p, n]) (h : (cutR 45 n).length ≠ 2) : ruleOfS s = none := by
  unfold ruleOfS
  rw [hw]
  dsimp only
  split
  · split
    · rename_i e
      rw [e] at h
      exact absurd rfl h
    · rfl
  · rfl
theorem ruleOfS_good {s a b p n x y : List UInt8} {P : Int} (hw : cutR 32 s = [a, b, p, n]) (ha : a = sAllow ∨ a = sDeny) (hb : b = sOut ∨ b = sIn) (hp : protoK p = P) (hp0 : 0 ≤ P) (hn : cutR 45 n = [x, y]) :
    ruleOfS s = if 0 ≤ numS x 5 ∧ 0 ≤ numS y 5 then some ⟨decide (a = sAllow), decide (b = sOut), P, numS x 5, numS y 5⟩ else none := by
  unfold ruleOfS
  rw [hw]
  dsimp only
  rw [if_pos ⟨ha, hb, by omega⟩, hn, hp]
theorem words2 {s : List UInt8} (h : (cutR 45 s).length = 2) : ∃ x y, cutR 45 s = [x, y] := by
  generalize cutR 45 s = l at h
  match l, h with
  | [a, b], _ => exact ⟨a, b, rfl⟩
theorem rruleOf_ok (s : List UInt8) (hl : s.length ≤ 100000) (w : World) :
    CallC Tryz.prog 52 #[.string (bs s)] w fun v w' => (∃ r k, v = .tuple #[.agg (encRule r).toArray, .bool k] ∧ (ruleOfS s = if k = true then some r else none)) ∧ Ext No w w' := by
  refine fn_intro tabOk Tryz.func52 (by kernel_rfl) rfl Tryz.ntmps52 (Nat.le_of_ble_eq_true rfl) ?_
  have hS := St.start w No
  (conv => whnf)
  refine hS.new (fun b2 w' hb2 hS => ?_)
  replace hS : St w No w' [blk b2 77 (encRule noRule)] := hS
  (conv => whnf)
  refine (rcut_ok s 32 hl _).mono ?_
  rintro v w1 ⟨⟨a0, d, rfl, ho, hf⟩, hx⟩
  replace hS := hS.madeL hx ho hf
  clear hx ho hf
  (conv => whnf)
  refine brND (fun h4 => ?_) (fun h4 => ?_)
  · have h4 := ruleOfS_words (s := s) (by omega)
    (conv => whnf)
    refine hS.st 0 rfl (Nat.le_of_ble_eq_true rfl) rfl (fun w' hS => ?_)
    (conv => whnf)
    refine hS.laX 0 rfl rfl ?_
    repeat' ((conv => whnf); first | refine RetC.mk ?_ | refine NzC.mk (by decide) ?_ | refine RngC.mk (by omega) (by omega) ?_ | refine IdxC.mk (by omega) (by omega) ?_ | refine brD (fun _ => ?_) (fun _ => ?_) | refine brND (fun _ => ?_) (fun _ => ?_) | refine brN (fun _ => ?_) (fun _ => ?_) | refine brI (fun _ => ?_) (fun _ => ?_))
    exact ⟨⟨noRule, false, rfl, h4⟩, hS.ext⟩
  obtain ⟨a, b4, p, n, hw⟩ := words4 (s := s) (by omega)
  have hnl := cutR_mem_len (c := 32) (l := s) (w := n) (by rw [hw]; simp)
  rw [hw] at hS ⊢
  have hl4 : ([a, b4, p, n] : List (List UInt8)).length = 4 := rfl
  obtain ⟨b, rfl⟩ := ownT_some (hS.get 1 rfl) (by simp)
  (conv => whnf)
  (refine drawS tabOk mixed [] ((· ≠ b)) [0, 1, 2, 3, 4, 5, 6, 7, 8, 9, 10] (by kernel_rfl) ?_; rintro w1 rfl; replace hS := hS.drew)
  have hK := hS.ref (· ≠ b)
  (conv => whnf)
  refine IdxC.mk (by omega) (by omega) ?_
  (conv => whnf)
  refine Ev.ldFc (ownT_cell (j := 0) (hS.get 1 rfl) rfl) (fun h => h rfl) ?_
  (conv => whnf)
  refine eqS2 ?_
  (conv => whnf)
  refine IdxC.mk (by omega) (by omega) ?_
  (conv => whnf)
  refine Ev.ldFc (ownT_cell (j := 1) (hS.get 1 rfl) rfl) (fun h => h rfl) ?_
  (conv => whnf)
  refine eqS2 ?_
  (conv => whnf)
  refine hS.newK hK (fun b5 w' hK hS => KeepC.mk hK ?_)
  (conv => whnf)
  refine hS.stK hK 2 rfl (Nat.le_of_ble_eq_true rfl) rfl (ownT_ne hS 2 1 rfl rfl (by decide)) (fun w' hK hS => KeepC.mk hK ?_)
  clear hK
  (conv => whnf)
  refine IdxC.mk (by omega) (by omega) ?_
  (conv => whnf)
  refine Ev.ldc (ownT_cell (j := 0) (hS.get 1 rfl) rfl) ?_
  (conv => whnf)
  refine neS2 ?_
  (conv => whnf)
  refine brND (fun h1 => ?_) (fun h1 => ?_)
  · (conv => whnf)
    refine IdxC.mk (by omega) (by omega) ?_
    (conv => whnf)
    refine Ev.ldc (ownT_cell (j := 0) (hS.get 1 rfl) rfl) ?_
    (conv => whnf)
    refine neS2 ?_
    (conv => whnf)
    refine brND (fun h2 => ?_) (fun h2 => ?_)
    · have hbad : ruleOfS s = none := ruleOfS_bad hw (fun h => h.1.elim h1 h2)
      (conv => whnf)
      refine hS.st 0 rfl (Nat.le_of_ble_eq_true rfl) rfl (fun w' hS => ?_)
      (conv => whnf)
      refine hS.laX 0 rfl rfl ?_
      repeat' ((conv => whnf); first | refine RetC.mk ?_ | refine NzC.mk (by decide) ?_ | refine RngC.mk (by omega) (by omega) ?_ | refine IdxC.mk (by omega) (by omega) ?_ | refine brD (fun _ => ?_) (fun _ => ?_) | refine brND (fun _ => ?_) (fun _ => ?_) | refine brN (fun _ => ?_) (fun _ => ?_) | refine brI (fun _ => ?_) (fun _ => ?_))
      exact ⟨⟨noRule, false, rfl, hbad⟩, hS.ext⟩
    (conv => whnf)
    refine IdxC.mk (by omega) (by omega) ?_
    (conv => whnf)
    refine Ev.ldc (ownT_cell (j := 1) (hS.get 1 rfl) rfl) ?_
    (conv => whnf)
    refine neS2 ?_
    (conv => whnf)
    refine brND (fun h5 => ?_) (fun h5 => ?_)
    · (conv => whnf)
      refine IdxC.mk (by omega) (by omega) ?_
      (conv => whnf)
      refine Ev.ldc (ownT_cell (j := 1) (hS.get 1 rfl) rfl) ?_
      (conv => whnf)
      refine neS2 ?_
      (conv => whnf)
      refine brND (fun h6 => ?_) (fun h6 => ?_)
      · have hbad : ruleOfS s = none := ruleOfS_bad hw (fun h => h.2.1.elim h5 h6)
        (conv => whnf)
        refine hS.st 0 rfl (Nat.le_of_ble_eq_true rfl) rfl (fun w' hS => ?_)
        (conv => whnf)
        refine hS.laX 0 rfl rfl ?_
        repeat' ((conv => whnf); first | refine RetC.mk ?_ | refine NzC.mk (by decide) ?_ | refine RngC.mk (by omega) (by omega) ?_ | refine IdxC.mk (by omega) (by omega) ?_ | refine brD (fun _ => ?_) (fun _ => ?_) | refine brND (fun _ => ?_) (fun _ => ?_) | refine brN (fun _ => ?_) (fun _ => ?_) | refine brI (fun _ => ?_) (fun _ => ?_))
        exact ⟨⟨noRule, false, rfl, hbad⟩, hS.ext⟩
      have ha : a = sAllow ∨ a = sDeny := .inr h2
      have hb4 : b4 = sOut ∨ b4 = sIn := .inr h6
      (conv => whnf)
      refine IdxC.mk (by omega) (by omega) ?_
      (conv => whnf)
      refine Ev.ldc (ownT_cell (j := 2) (hS.get 1 rfl) rfl) ?_
      (conv => whnf)
      refine eqS2 ?_
      (conv => whnf)
      refine brD (fun h7 => ?_) (fun h7 => ?_)
      · (conv => whnf)
        refine hS.st 2 rfl (Nat.le_of_ble_eq_true rfl) rfl (fun w' hS => ?_)
        have hp : protoK p = 0 := if_pos h7
        replace hS : St w No _ [blk b2 77 (encRule noRule), ownL 9 1 encT (.slice (some ⟨b, 0, none⟩) 4 d) [a, b4, p, n], blk b5 77 (encRule ⟨decide (a = sAllow), decide (b4 = sOut), 0, 0, 0⟩)] := hS
        (conv => whnf)
        refine IdxC.mk (by omega) (by omega) ?_
        (conv => whnf)
        refine Ev.ldc (ownT_cell (j := 3) (hS.get 1 rfl) rfl) ?_
        (conv => whnf)
        refine (rcut_ok n 45 (by omega) _).mono ?_
        rintro v w3 ⟨⟨a2, d2, rfl, ho, hf⟩, hx⟩
        replace hS := hS.madeL hx ho hf
        clear hx ho hf
        (conv => whnf)
        refine brND (fun h10 => ?_) (fun h10 => ?_)
        · have hbad := ruleOfS_bad2 hw (by omega)
          (conv => whnf)
          refine hS.st 0 rfl (Nat.le_of_ble_eq_true rfl) rfl (fun w' hS => ?_)
          (conv => whnf)
          refine hS.laX 0 rfl rfl ?_
          repeat' ((conv => whnf); first | refine RetC.mk ?_ | refine NzC.mk (by decide) ?_ | refine RngC.mk (by omega) (by omega) ?_ | refine IdxC.mk (by omega) (by omega) ?_ | refine brD (fun _ => ?_) (fun _ => ?_) | refine brND (fun _ => ?_) (fun _ => ?_) | refine brN (fun _ => ?_) (fun _ => ?_) | refine brI (fun _ => ?_) (fun _ => ?_))
          exact ⟨⟨noRule, false, rfl, hbad⟩, hS.ext⟩
        obtain ⟨x, y, hxy⟩ := words2 (s := n) (by omega)
        have hcl2 := cutR_mem_len (c := 45) (l := n) (w := x) (by rw [hxy]; exact List.mem_cons_self)
        have hcl3 := cutR_mem_len (c := 45) (l := n) (w := y) (by rw [hxy]; exact List.mem_cons_of_mem _ List.mem_cons_self)
        have hg := ruleOfS_good hw ha hb4 hp (by omega) hxy
        rw [hxy] at hS ⊢
        obtain ⟨bw, rfl⟩ := ownT_some (hS.get 3 rfl) (by simp)
        have hl2 : ([x, y] : List (List UInt8)).length = 2 := rfl
        (conv => whnf)
        refine IdxC.mk (by omega) (by omega) ?_
        (conv => whnf)
        refine Ev.ldc (ownT_cell (j := 0) (hS.get 3 rfl) rfl) ?_
        (conv => whnf)
        refine (numberOf_ok x 5 (by omega) (by omega) _).mono ?_
        rintro v w4 ⟨rfl, hx⟩
        replace hS := hS.no hx
        clear hx
        (conv => whnf)
        refine hS.st 2 rfl (Nat.le_of_ble_eq_true rfl) rfl (fun w' hS => ?_)
        (conv => whnf)
        refine IdxC.mk (by omega) (by omega) ?_
        (conv => whnf)
        refine Ev.ldc (ownT_cell (j := 1) (hS.get 3 rfl) rfl) ?_
        (conv => whnf)
        refine (numberOf_ok y 5 (by omega) (by omega) _).mono ?_
        rintro v w5 ⟨rfl, hx⟩
        replace hS := hS.no hx
        clear hx
        (conv => whnf)
        refine hS.st 2 rfl (Nat.le_of_ble_eq_true rfl) rfl (fun w' hS => ?_)
        generalize hr : (⟨decide (a = sAllow), decide (b4 = sOut), 0, numS x 5, numS y 5⟩ : RuleS) = r at hg
        have hr1 : r.low = numS x 5 := by rw [← hr]
        have hr2 : r.top = numS y 5 := by rw [← hr]
        replace hS : St w No w' [blk b2 77 (encRule noRule), ownL 9 1 encT (.slice (some ⟨b, 0, none⟩) 4 d) [a, b4, p, n], blk b5 77 (encRule r), ownL 9 1 encT (.slice (some ⟨bw, 0, none⟩) 2 d2) [x, y]] := by
          rw [← hr]
          exact hS
        rw [← hr1, ← hr2] at hg
        clear hr1 hr2
        have hne := hS.ne 2 0 rfl rfl (by decide)
        (conv => whnf)
        (refine drawS tabOk mixed [] ((· = b2)) [0, 1, 2, 3, 4, 5, 6, 7, 8, 9, 10] (by kernel_rfl) ?_; rintro w1 rfl; replace hS := hS.drew)
        have hK := hS.ref (· = b2)
        (conv => whnf)
        refine hS.laXF 2 rfl rfl hne ?_
        (conv => whnf)
        refine hS.ldF 2 rfl rfl hne ?_
        (conv => whnf)
        refine brD (fun h11 => ?_) (fun h11 => ?_)
        · (conv => whnf)
          refine hS.ldF 2 rfl rfl hne ?_
          (conv => whnf)
          refine hS.stK hK 0 rfl (Nat.le_of_ble_eq_true rfl) rfl rfl (fun w' hK hS => KeepC.mk hK ?_)
          replace hS : St w No w' [blk b2 77 (encRule r), ownL 9 1 encT (.slice (some ⟨b, 0, none⟩) 4 d) [a, b4, p, n], blk b5 77 (encRule r), ownL 9 1 encT (.slice (some ⟨bw, 0, none⟩) 2 d2) [x, y]] := hS
          (conv => whnf)
          refine hS.laX 0 rfl rfl ?_
          repeat' ((conv => whnf); first | refine RetC.mk ?_ | refine NzC.mk (by decide) ?_ | refine RngC.mk (by omega) (by omega) ?_ | refine IdxC.mk (by omega) (by omega) ?_ | refine brD (fun _ => ?_) (fun _ => ?_) | refine brND (fun _ => ?_) (fun _ => ?_) | refine brN (fun _ => ?_) (fun _ => ?_) | refine brI (fun _ => ?_) (fun _ => ?_))
          refine ⟨⟨r, _, rfl, ?_⟩, hS.ext⟩
          rw [hg]
          by_cases h12 : 0 ≤ r.top
          · rw [if_pos ⟨by omega, h12⟩, if_pos (decide_eq_true (by omega))]
          · rw [if_neg (fun h => h12 h.2), if_neg (fun h => h12 (of_decide_eq_true h))]
        · (conv => whnf)
          refine hS.stK hK 0 rfl (Nat.le_of_ble_eq_true rfl) rfl rfl (fun w' hK hS => KeepC.mk hK ?_)
          replace hS : St w No w' [blk b2 77 (encRule r), ownL 9 1 encT (.slice (some ⟨b, 0, none⟩) 4 d) [a, b4, p, n], blk b5 77 (encRule r), ownL 9 1 encT (.slice (some ⟨bw, 0, none⟩) 2 d2) [x, y]] := hS
          (conv => whnf)
          refine hS.laX 0 rfl rfl ?_
          repeat' ((conv => whnf); first | refine RetC.mk ?_ | refine NzC.mk (by decide) ?_ | refine RngC.mk (by omega) (by omega) ?_ | refine IdxC.mk (by omega) (by omega) ?_ | refine brD (fun _ => ?_) (fun _ => ?_) | refine brND (fun _ => ?_) (fun _ => ?_) | refine brN (fun _ => ?_) (fun _ => ?_) | refine brI (fun _ => ?_) (fun _ => ?_))
          refine ⟨⟨r, _, rfl, ?_⟩, hS.ext⟩
          rw [hg, if_neg (fun h => by omega), if_neg (by simp)]
      (conv => whnf)
      refine eqS2 ?_
      (conv => whnf)
      refine brD (fun h8 => ?_) (fun h8 => ?_)
      · (conv => whnf)
        refine hS.st 2 rfl (Nat.le_of_ble_eq_true rfl) rfl (fun w' hS => ?_)
        have hp : protoK p = 1 := (if_neg h7).trans (if_pos h8)
        replace hS : St w No _ [blk b2 77 (encRule noRule), ownL 9 1 encT (.slice (some ⟨b, 0, none⟩) 4 d) [a, b4, p, n], blk b5 77 (encRule ⟨decide (a = sAllow), decide (b4 = sOut), 1, 0, 0⟩)] := hS
        (conv => whnf)
        refine IdxC.mk (by omega) (by omega) ?_
        (conv => whnf)
        refine Ev.ldc (ownT_cell (j := 3) (hS.get 1 rfl) rfl) ?_
        (conv => whnf)
        refine (rcut_ok n 45 (by omega) _).mono ?_
        rintro v w3 ⟨⟨a2, d2, rfl, ho, hf⟩, hx⟩
        replace hS := hS.madeL hx ho hf
        clear hx ho hf
        (conv => whnf)
        refine brND (fun h10 => ?_) (fun h10 => ?_)
        · have hbad := ruleOfS_bad2 hw (by omega)
          (conv => whnf)
          refine hS.st 0 rfl (Nat.le_of_ble_eq_true rfl) rfl (fun w' hS => ?_)
          (conv => whnf)
          refine hS.laX 0 rfl rfl ?_
          repeat' ((conv => whnf); first | refine RetC.mk ?_ | refine NzC.mk (by decide) ?_ | refine RngC.mk (by omega) (by omega) ?_ | refine IdxC.mk (by omega) (by omega) ?_ | refine brD (fun _ => ?_) (fun _ => ?_) | refine brND (fun _ => ?_) (fun _ => ?_) | refine brN (fun _ => ?_) (fun _ => ?_) | refine brI (fun _ => ?_) (fun _ => ?_))
          exact ⟨⟨noRule, false, rfl, hbad⟩, hS.ext⟩
        obtain ⟨x, y, hxy⟩ := words2 (s := n) (by omega)
        have hcl2 := cutR_mem_len (c := 45) (l := n) (w := x) (by rw [hxy]; exact List.mem_cons_self)
        have hcl3 := cutR_mem_len (c := 45) (l := n) (w := y) (by rw [hxy]; exact List.mem_cons_of_mem _ List.mem_cons_self)
        have hg := ruleOfS_good hw ha hb4 hp (by omega) hxy
        rw [hxy] at hS ⊢
        obtain ⟨bw, rfl⟩ := ownT_some (hS.get 3 rfl) (by simp)
        have hl2 : ([x, y] : List (List UInt8)).length = 2 := rfl
        (conv => whnf)
        refine IdxC.mk (by omega) (by omega) ?_
        (conv => whnf)
        refine Ev.ldc (ownT_cell (j := 0) (hS.get 3 rfl) rfl) ?_
        (conv => whnf)
        refine (numberOf_ok x 5 (by omega) (by omega) _).mono ?_
        rintro v w4 ⟨rfl, hx⟩
        replace hS := hS.no hx
        clear hx
        (conv => whnf)
        refine hS.st 2 rfl (Nat.le_of_ble_eq_true rfl) rfl (fun w' hS => ?_)
        (conv => whnf)
        refine IdxC.mk (by omega) (by omega) ?_
        (conv => whnf)
        refine Ev.ldc (ownT_cell (j := 1) (hS.get 3 rfl) rfl) ?_
        (conv => whnf)
        refine (numberOf_ok y 5 (by omega) (by omega) _).mono ?_
        rintro v w5 ⟨rfl, hx⟩
        replace hS := hS.no hx
        clear hx
        (conv => whnf)
        refine hS.st 2 rfl (Nat.le_of_ble_eq_true rfl) rfl (fun w' hS => ?_)
        generalize hr : (⟨decide (a = sAllow), decide (b4 = sOut), 1, numS x 5, numS y 5⟩ : RuleS) = r at hg
        have hr1 : r.low = numS x 5 := by rw [← hr]
        have hr2 : r.top = numS y 5 := by rw [← hr]
        replace hS : St w No w' [blk b2 77 (encRule noRule), ownL 9 1 encT (.slice (some ⟨b, 0, none⟩) 4 d) [a, b4, p, n], blk b5 77 (encRule r), ownL 9 1 encT (.slice (some ⟨bw, 0, none⟩) 2 d2) [x, y]] := by
          rw [← hr]
          exact hS
        rw [← hr1, ← hr2] at hg
        clear hr1 hr2
        have hne := hS.ne 2 0 rfl rfl (by decide)
        (conv => whnf)
        (refine drawS tabOk mixed [] ((· = b2)) [0, 1, 2, 3, 4, 5, 6, 7, 8, 9, 10] (by kernel_rfl) ?_; rintro w1 rfl; replace hS := hS.drew)
        have hK := hS.ref (· = b2)
        (conv => whnf)
        refine hS.laXF 2 rfl rfl hne ?_
        (conv => whnf)
        refine hS.ldF 2 rfl rfl hne ?_
        (conv => whnf)
        refine brD (fun h11 => ?_) (fun h11 => ?_)
        · (conv => whnf)
          refine hS.ldF 2 rfl rfl hne ?_
          (conv => whnf)
          refine hS.stK hK 0 rfl (Nat.le_of_ble_eq_true rfl) rfl rfl (fun w' hK hS => KeepC.mk hK ?_)
          replace hS : St w No w' [blk b2 77 (encRule r), ownL 9 1 encT (.slice (some ⟨b, 0, none⟩) 4 d) [a, b4, p, n], blk b5 77 (encRule r), ownL 9 1 encT (.slice (some ⟨bw, 0, none⟩) 2 d2) [x, y]] := hS
          (conv => whnf)
          refine hS.laX 0 rfl rfl ?_
          repeat' ((conv => whnf); first | refine RetC.mk ?_ | refine NzC.mk (by decide) ?_ | refine RngC.mk (by omega) (by omega) ?_ | refine IdxC.mk (by omega) (by omega) ?_ | refine brD (fun _ => ?_) (fun _ => ?_) | refine brND (fun _ => ?_) (fun _ => ?_) | refine brN (fun _ => ?_) (fun _ => ?_) | refine brI (fun _ => ?_) (fun _ => ?_))
          refine ⟨⟨r, _, rfl, ?_⟩, hS.ext⟩
          rw [hg]
          by_cases h12 : 0 ≤ r.top
          · rw [if_pos ⟨by omega, h12⟩, if_pos (decide_eq_true (by omega))]
          · rw [if_neg (fun h => h12 h.2), if_neg (fun h => h12 (of_decide_eq_true h))]
        · (conv => whnf)
          refine hS.stK hK 0 rfl (Nat.le_of_ble_eq_true rfl) rfl rfl (fun w' hK hS => KeepC.mk hK ?_)
          replace hS : St w No w' [blk b2 77 (encRule r), ownL 9 1 encT (.slice (some ⟨b, 0, none⟩) 4 d) [a, b4, p, n], blk b5 77 (encRule r), ownL 9 1 encT (.slice (some ⟨bw, 0, none⟩) 2 d2) [x, y]] := hS
          (conv => whnf)
          refine hS.laX 0 rfl rfl ?_
          repeat' ((conv => whnf); first | refine RetC.mk ?_ | refine NzC.mk (by decide) ?_ | refine RngC.mk (by omega) (by omega) ?_ | refine IdxC.mk (by omega) (by omega) ?_ | refine brD (fun _ => ?_) (fun _ => ?_) | refine brND (fun _ => ?_) (fun _ => ?_) | refine brN (fun _ => ?_) (fun _ => ?_) | refine brI (fun _ => ?_) (fun _ => ?_))
          refine ⟨⟨r, _, rfl, ?_⟩, hS.ext⟩
          rw [hg, if_neg (fun h => by omega), if_neg (by simp)]
      (conv => whnf)
      refine eqS2 ?_
      (conv => whnf)
      refine brD (fun h9 => ?_) (fun h9 => ?_)
      · (conv => whnf)
        refine hS.st 2 rfl (Nat.le_of_ble_eq_true rfl) rfl (fun w' hS => ?_)
        have hp : protoK p = 2 := (if_neg h7).trans ((if_neg h8).trans (if_pos h9))
        replace hS : St w No _ [blk b2 77 (encRule noRule), ownL 9 1 encT (.slice (some ⟨b, 0, none⟩) 4 d) [a, b4, p, n], blk b5 77 (encRule ⟨decide (a = sAllow), decide (b4 = sOut), 2, 0, 0⟩)] := hS
        (conv => whnf)
        refine IdxC.mk (by omega) (by omega) ?_
        (conv => whnf)
        refine Ev.ldc (ownT_cell (j := 3) (hS.get 1 rfl) rfl) ?_
        (conv => whnf)
        refine (rcut_ok n 45 (by omega) _).mono ?_
        rintro v w3 ⟨⟨a2, d2, rfl, ho, hf⟩, hx⟩
        replace hS := hS.madeL hx ho hf
        clear hx ho hf
        (conv => whnf)
        refine brND (fun h10 => ?_) (fun h10 => ?_)
        · have hbad := ruleOfS_bad2 hw (by omega)
          (conv => whnf)
          refine hS.st 0 rfl (Nat.le_of_ble_eq_true rfl) rfl (fun w' hS => ?_)
          (conv => whnf)
          refine hS.laX 0 rfl rfl ?_
          repeat' ((conv => whnf); first | refine RetC.mk ?_ | refine NzC.mk (by decide) ?_ | refine RngC.mk (by omega) (by omega) ?_ | refine IdxC.mk (by omega) (by omega) ?_ | refine brD (fun _ => ?_) (fun _ => ?_) | refine brND (fun _ => ?_) (fun _ => ?_) | refine brN (fun _ => ?_) (fun _ => ?_) | refine brI (fun _ => ?_) (fun _ => ?_))
          exact ⟨⟨noRule, false, rfl, hbad⟩, hS.ext⟩
        obtain ⟨x, y, hxy⟩ := words2 (s := n) (by omega)
        have hcl2 := cutR_mem_len (c := 45) (l := n) (w := x) (by rw [hxy]; exact List.mem_cons_self)
        have hcl3 := cutR_mem_len (c := 45) (l := n) (w := y) (by rw [hxy]; exact List.mem_cons_of_mem _ List.mem_cons_self)
        have hg := ruleOfS_good hw ha hb4 hp (by omega) hxy
        rw [hxy] at hS ⊢
        obtain ⟨bw, rfl⟩ := ownT_some (hS.get 3 rfl) (by simp)
        have hl2 : ([x, y] : List (List UInt8)).length = 2 := rfl
        (conv => whnf)
        refine IdxC.mk (by omega) (by omega) ?_
        (conv => whnf)
        refine Ev.ldc (ownT_cell (j := 0) (hS.get 3 rfl) rfl) ?_
        (conv => whnf)
        refine (numberOf_ok x 5 (by omega) (by omega) _).mono ?_
        rintro v w4 ⟨rfl, hx⟩
        replace hS := hS.no hx
        clear hx
        (conv => whnf)
        refine hS.st 2 rfl (Nat.le_of_ble_eq_true rfl) rfl (fun w' hS => ?_)
        (conv => whnf)
        refine IdxC.mk (by omega) (by omega) ?_
        (conv => whnf)
        refine Ev.ldc (ownT_cell (j := 1) (hS.get 3 rfl) rfl) ?_
        (conv => whnf)
        refine (numberOf_ok y 5 (by omega) (by omega) _).mono ?_
        rintro v w5 ⟨rfl, hx⟩
        replace hS := hS.no hx
        clear hx
        (conv => whnf)
        refine hS.st 2 rfl (Nat.le_of_ble_eq_true rfl) rfl (fun w' hS => ?_)
        generalize hr : (⟨decide (a = sAllow), decide (b4 = sOut), 2, numS x 5, numS y 5⟩ : RuleS) = r at hg
        have hr1 : r.low = numS x 5 := by rw [← hr]
        have hr2 : r.top = numS y 5 := by rw [← hr]
        replace hS : St w No w' [blk b2 77 (encRule noRule), ownL 9 1 encT (.slice (some ⟨b, 0, none⟩) 4 d) [a, b4, p, n], blk b5 77 (encRule r), ownL 9 1 encT (.slice (some ⟨bw, 0, none⟩) 2 d2) [x, y]] := by
          rw [← hr]
          exact hS
        rw [← hr1, ← hr2] at hg
        clear hr1 hr2
        have hne := hS.ne 2 0 rfl rfl (by decide)
        (conv => whnf)
        (refine drawS tabOk mixed [] ((· = b2)) [0, 1, 2, 3, 4, 5, 6, 7, 8, 9, 10] (by kernel_rfl) ?_; rintro w1 rfl; replace hS := hS.drew)
        have hK := hS.ref (· = b2)
        (conv => whnf)
        refine hS.laXF 2 rfl rfl hne ?_
        (conv => whnf)
        refine hS.ldF 2 rfl rfl hne ?_
        (conv => whnf)
        refine brD (fun h11 => ?_) (fun h11 => ?_)
        · (conv => whnf)
          refine hS.ldF 2 rfl rfl hne ?_
          (conv => whnf)
          refine hS.stK hK 0 rfl (Nat.le_of_ble_eq_true rfl) rfl rfl (fun w' hK hS => KeepC.mk hK ?_)
          replace hS : St w No w' [blk b2 77 (encRule r), ownL 9 1 encT (.slice (some ⟨b, 0, none⟩) 4 d) [a, b4, p, n], blk b5 77 (encRule r), ownL 9 1 encT (.slice (some ⟨bw, 0, none⟩) 2 d2) [x, y]] := hS
          (conv => whnf)
          refine hS.laX 0 rfl rfl ?_
          repeat' ((conv => whnf); first | refine RetC.mk ?_ | refine NzC.mk (by decide) ?_ | refine RngC.mk (by omega) (by omega) ?_ | refine IdxC.mk (by omega) (by omega) ?_ | refine brD (fun _ => ?_) (fun _ => ?_) | refine brND (fun _ => ?_) (fun _ => ?_) | refine brN (fun _ => ?_) (fun _ => ?_) | refine brI (fun _ => ?_) (fun _ => ?_))
          refine ⟨⟨r, _, rfl, ?_⟩, hS.ext⟩
          rw [hg]
          by_cases h12 : 0 ≤ r.top
          · rw [if_pos ⟨by omega, h12⟩, if_pos (decide_eq_true (by omega))]
          · rw [if_neg (fun h => h12 h.2), if_neg (fun h => h12 (of_decide_eq_true h))]
        · (conv => whnf)
          refine hS.stK hK 0 rfl (Nat.le_of_ble_eq_true rfl) rfl rfl (fun w' hK hS => KeepC.mk hK ?_)
          replace hS : St w No w' [blk b2 77 (encRule r), ownL 9 1 encT (.slice (some ⟨b, 0, none⟩) 4 d) [a, b4, p, n], blk b5 77 (encRule r), ownL 9 1 encT (.slice (some ⟨bw, 0, none⟩) 2 d2) [x, y]] := hS
          (conv => whnf)
          refine hS.laX 0 rfl rfl ?_
          repeat' ((conv => whnf); first | refine RetC.mk ?_ | refine NzC.mk (by decide) ?_ | refine RngC.mk (by omega) (by omega) ?_ | refine IdxC.mk (by omega) (by omega) ?_ | refine brD (fun _ => ?_) (fun _ => ?_) | refine brND (fun _ => ?_) (fun _ => ?_) | refine brN (fun _ => ?_) (fun _ => ?_) | refine brI (fun _ => ?_) (fun _ => ?_))
          refine ⟨⟨r, _, rfl, ?_⟩, hS.ext⟩
          rw [hg, if_neg (fun h => by omega), if_neg (by simp)]
      have g7 : ¬ p = sAny := h7
      have g8 : ¬ p = sUdp := h8
      have g9 : ¬ p = sTcp := h9
      have hbad : ruleOfS s = none := ruleOfS_bad hw (fun h => by
        have h2 := h.2.2
        unfold protoK at h2
        rw [if_neg g7, if_neg g8, if_neg g9] at h2
        exact absurd h2 (by decide))
      (conv => whnf)
      refine hS.st 0 rfl (Nat.le_of_ble_eq_true rfl) rfl (fun w' hS => ?_)
      (conv => whnf)
      refine hS.laX 0 rfl rfl ?_
      repeat' ((conv => whnf); first | refine RetC.mk ?_ | refine NzC.mk (by decide) ?_ | refine RngC.mk (by omega) (by omega) ?_ | refine IdxC.mk (by omega) (by omega) ?_ | refine brD (fun _ => ?_) (fun _ => ?_) | refine brND (fun _ => ?_) (fun _ => ?_) | refine brN (fun _ => ?_) (fun _ => ?_) | refine brI (fun _ => ?_) (fun _ => ?_))
      exact ⟨⟨noRule, false, rfl, hbad⟩, hS.ext⟩
    have ha : a = sAllow ∨ a = sDeny := .inr h2
    have hb4 : b4 = sOut ∨ b4 = sIn := .inl h5
    (conv => whnf)
    refine IdxC.mk (by omega) (by omega) ?_
    (conv => whnf)
    refine Ev.ldc (ownT_cell (j := 2) (hS.get 1 rfl) rfl) ?_
    (conv => whnf)
    refine eqS2 ?_
    (conv => whnf)
    refine brD (fun h7 => ?_) (fun h7 => ?_)
    · (conv => whnf)
      refine hS.st 2 rfl (Nat.le_of_ble_eq_true rfl) rfl (fun w' hS => ?_)
      have hp : protoK p = 0 := if_pos h7
      replace hS : St w No _ [blk b2 77 (encRule noRule), ownL 9 1 encT (.slice (some ⟨b, 0, none⟩) 4 d) [a, b4, p, n], blk b5 77 (encRule ⟨decide (a = sAllow), decide (b4 = sOut), 0, 0, 0⟩)] := hS
      (conv => whnf)
      refine IdxC.mk (by omega) (by omega) ?_
      (conv => whnf)
      refine Ev.ldc (ownT_cell (j := 3) (hS.get 1 rfl) rfl) ?_
      (conv => whnf)
      refine (rcut_ok n 45 (by omega) _).mono ?_
      rintro v w3 ⟨⟨a2, d2, rfl, ho, hf⟩, hx⟩
      replace hS := hS.madeL hx ho hf
      clear hx ho hf
      (conv => whnf)
      refine brND (fun h10 => ?_) (fun h10 => ?_)
      · have hbad := ruleOfS_bad2 hw (by omega)
        (conv => whnf)
        refine hS.st 0 rfl (Nat.le_of_ble_eq_true rfl) rfl (fun w' hS => ?_)
        (conv => whnf)
        refine hS.laX 0 rfl rfl ?_
        repeat' ((conv => whnf); first | refine RetC.mk ?_ | refine NzC.mk (by decide) ?_ | refine RngC.mk (by omega) (by omega) ?_ | refine IdxC.mk (by omega) (by omega) ?_ | refine brD (fun _ => ?_) (fun _ => ?_) | refine brND (fun _ => ?_) (fun _ => ?_) | refine brN (fun _ => ?_) (fun _ => ?_) | refine brI (fun _ => ?_) (fun _ => ?_))
        exact ⟨⟨noRule, false, rfl, hbad⟩, hS.ext⟩
      obtain ⟨x, y, hxy⟩ := words2 (s := n) (by omega)
      have hcl2 := cutR_mem_len (c := 45) (l := n) (w := x) (by rw [hxy]; exact List.mem_cons_self)
      have hcl3 := cutR_mem_len (c := 45) (l := n) (w := y) (by rw [hxy]; exact List.mem_cons_of_mem _ List.mem_cons_self)
      have hg := ruleOfS_good hw ha hb4 hp (by omega) hxy
      rw [hxy] at hS ⊢
      obtain ⟨bw, rfl⟩ := ownT_some (hS.get 3 rfl) (by simp)
      have hl2 : ([x, y] : List (List UInt8)).length = 2 := rfl
      (conv => whnf)
      refine IdxC.mk (by omega) (by omega) ?_
      (conv => whnf)
      refine Ev.ldc (ownT_cell (j := 0) (hS.get 3 rfl) rfl) ?_
      (conv => whnf)
      refine (numberOf_ok x 5 (by omega) (by omega) _).mono ?_
      rintro v w4 ⟨rfl, hx⟩
      replace hS := hS.no hx
      clear hx
      (conv => whnf)
      refine hS.st 2 rfl (Nat.le_of_ble_eq_true rfl) rfl (fun w' hS => ?_)
      (conv => whnf)
      refine IdxC.mk (by omega) (by omega) ?_
      (conv => whnf)
      refine Ev.ldc (ownT_cell (j := 1) (hS.get 3 rfl) rfl) ?_
      (conv => whnf)
      refine (numberOf_ok y 5 (by omega) (by omega) _).mono ?_
      rintro v w5 ⟨rfl, hx⟩
      replace hS := hS.no hx
      clear hx
      (conv => whnf)
      refine hS.st 2 rfl (Nat.le_of_ble_eq_true rfl) rfl (fun w' hS => ?_)
      generalize hr : (⟨decide (a = sAllow), decide (b4 = sOut), 0, numS x 5, numS y 5⟩ : RuleS) = r at hg
      have hr1 : r.low = numS x 5 := by rw [← hr]
      have hr2 : r.top = numS y 5 := by rw [← hr]
      replace hS : St w No w' [blk b2 77 (encRule noRule), ownL 9 1 encT (.slice (some ⟨b, 0, none⟩) 4 d) [a, b4, p, n], blk b5 77 (encRule r), ownL 9 1 encT (.slice (some ⟨bw, 0, none⟩) 2 d2) [x, y]] := by
        rw [← hr]
        exact hS
      rw [← hr1, ← hr2] at hg
      clear hr1 hr2
      have hne := hS.ne 2 0 rfl rfl (by decide)
      (conv => whnf)
      (refine drawS tabOk mixed [] ((· = b2)) [0, 1, 2, 3, 4, 5, 6, 7, 8, 9, 10] (by kernel_rfl) ?_; rintro w1 rfl; replace hS := hS.drew)
      have hK := hS.ref (· = b2)
      (conv => whnf)
      refine hS.laXF 2 rfl rfl hne ?_
      (conv => whnf)
      refine hS.ldF 2 rfl rfl hne ?_
      (conv => whnf)
      refine brD (fun h11 => ?_) (fun h11 => ?_)
      · (conv => whnf)
        refine hS.ldF 2 rfl rfl hne ?_
        (conv => whnf)
        refine hS.stK hK 0 rfl (Nat.le_of_ble_eq_true rfl) rfl rfl (fun w' hK hS => KeepC.mk hK ?_)
        replace hS : St w No w' [blk b2 77 (encRule r), ownL 9 1 encT (.slice (some ⟨b, 0, none⟩) 4 d) [a, b4, p, n], blk b5 77 (encRule r), ownL 9 1 encT (.slice (some ⟨bw, 0, none⟩) 2 d2) [x, y]] := hS
        (conv => whnf)
        refine hS.laX 0 rfl rfl ?_
        repeat' ((conv => whnf); first | refine RetC.mk ?_ | refine NzC.mk (by decide) ?_ | refine RngC.mk (by omega) (by omega) ?_ | refine IdxC.mk (by omega) (by omega) ?_ | refine brD (fun _ => ?_) (fun _ => ?_) | refine brND (fun _ => ?_) (fun _ => ?_) | refine brN (fun _ => ?_) (fun _ => ?_) | refine brI (fun _ => ?_) (fun _ => ?_))
        refine ⟨⟨r, _, rfl, ?_⟩, hS.ext⟩
        rw [hg]
        by_cases h12 : 0 ≤ r.top
        · rw [if_pos ⟨by omega, h12⟩, if_pos (decide_eq_true (by omega))]
        · rw [if_neg (fun h => h12 h.2), if_neg (fun h => h12 (of_decide_eq_true h))]
      · (conv => whnf)
        refine hS.stK hK 0 rfl (Nat.le_of_ble_eq_true rfl) rfl rfl (fun w' hK hS => KeepC.mk hK ?_)
        replace hS : St w No w' [blk b2 77 (encRule r), ownL 9 1 encT (.slice (some ⟨b, 0, none⟩) 4 d) [a, b4, p, n], blk b5 77 (encRule r), ownL 9 1 encT (.slice (some ⟨bw, 0, none⟩) 2 d2) [x, y]] := hS
        (conv => whnf)
        refine hS.laX 0 rfl rfl ?_
        repeat' ((conv => whnf); first | refine RetC.mk ?_ | refine NzC.mk (by decide) ?_ | refine RngC.mk (by omega) (by omega) ?_ | refine IdxC.mk (by omega) (by omega) ?_ | refine brD (fun _ => ?_) (fun _ => ?_) | refine brND (fun _ => ?_) (fun _ => ?_) | refine brN (fun _ => ?_) (fun _ => ?_) | refine brI (fun _ => ?_) (fun _ => ?_))
        refine ⟨⟨r, _, rfl, ?_⟩, hS.ext⟩
        rw [hg, if_neg (fun h => by omega), if_neg (by simp)]
    (conv => whnf)
    refine eqS2 ?_
    (conv => whnf)
    refine brD (fun h8 => ?_) (fun h8 => ?_)
    · (conv => whnf)
      refine hS.st 2 rfl (Nat.le_of_ble_eq_true rfl) rfl (fun w' hS => ?_)
      have hp : protoK p = 1 := (if_neg h7).trans (if_pos h8)
      replace hS : St w No _ [blk b2 77 (encRule noRule), ownL 9 1 encT (.slice (some ⟨b, 0, none⟩) 4 d) [a, b4, p, n], blk b5 77 (encRule ⟨decide (a = sAllow), decide (b4 = sOut), 1, 0, 0⟩)] := hS
      (conv => whnf)
      refine IdxC.mk (by omega) (by omega) ?_
      (conv => whnf)
      refine Ev.ldc (ownT_cell (j := 3) (hS.get 1 rfl) rfl) ?_
      (conv => whnf)
      refine (rcut_ok n 45 (by omega) _).mono ?_
      rintro v w3 ⟨⟨a2, d2, rfl, ho, hf⟩, hx⟩
      replace hS := hS.madeL hx ho hf
      clear hx ho hf
      (conv => whnf)
      refine brND (fun h10 => ?_) (fun h10 => ?_)
      · have hbad := ruleOfS_bad2 hw (by omega)
        (conv => whnf)
        refine hS.st 0 rfl (Nat.le_of_ble_eq_true rfl) rfl (fun w' hS => ?_)
        (conv => whnf)
        refine hS.laX 0 rfl rfl ?_
        repeat' ((conv => whnf); first | refine RetC.mk ?_ | refine NzC.mk (by decide) ?_ | refine RngC.mk (by omega) (by omega) ?_ | refine IdxC.mk (by omega) (by omega) ?_ | refine brD (fun _ => ?_) (fun _ => ?_) | refine brND (fun _ => ?_) (fun _ => ?_) | refine brN (fun _ => ?_) (fun _ => ?_) | refine brI (fun _ => ?_) (fun _ => ?_))
        exact ⟨⟨noRule, false, rfl, hbad⟩, hS.ext⟩
      obtain ⟨x, y, hxy⟩ := words2 (s := n) (by omega)
      have hcl2 := cutR_mem_len (c := 45) (l := n) (w := x) (by rw [hxy]; exact List.mem_cons_self)
      have hcl3 := cutR_mem_len (c := 45) (l := n) (w := y) (by rw [hxy]; exact List.mem_cons_of_mem _ List.mem_cons_self)
      have hg := ruleOfS_good hw ha hb4 hp (by omega) hxy
      rw [hxy] at hS ⊢
      obtain ⟨bw, rfl⟩ := ownT_some (hS.get 3 rfl) (by simp)
      have hl2 : ([x, y] : List (List UInt8)).length = 2 := rfl
      (conv => whnf)
      refine IdxC.mk (by omega) (by omega) ?_
      (conv => whnf)
      refine Ev.ldc (ownT_cell (j := 0) (hS.get 3 rfl) rfl) ?_
      (conv => whnf)
      refine (numberOf_ok x 5 (by omega) (by omega) _).mono ?_
      rintro v w4 ⟨rfl, hx⟩
      replace hS := hS.no hx
      clear hx
      (conv => whnf)
      refine hS.st 2 rfl (Nat.le_of_ble_eq_true rfl) rfl (fun w' hS => ?_)
      (conv => whnf)
      refine IdxC.mk (by omega) (by omega) ?_
      (conv => whnf)
      refine Ev.ldc (ownT_cell (j := 1) (hS.get 3 rfl) rfl) ?_
      (conv => whnf)
      refine (numberOf_ok y 5 (by omega) (by omega) _).mono ?_
      rintro v w5 ⟨rfl, hx⟩
      replace hS := hS.no hx
      clear hx
      (conv => whnf)
      refine hS.st 2 rfl (Nat.le_of_ble_eq_true rfl) rfl (fun w' hS => ?_)
      generalize hr : (⟨decide (a = sAllow), decide (b4 = sOut), 1, numS x 5, numS y 5⟩ : RuleS) = r at hg
      have hr1 : r.low = numS x 5 := by rw [← hr]
      have hr2 : r.top = numS y 5 := by rw [← hr]
      replace hS : St w No w' [blk b2 77 (encRule noRule), ownL 9 1 encT (.slice (some ⟨b, 0, none⟩) 4 d) [a, b4, p, n], blk b5 77 (encRule r), ownL 9 1 encT (.slice (some ⟨bw, 0, none⟩) 2 d2) [x, y]] := by
        rw [← hr]
        exact hS
      rw [← hr1, ← hr2] at hg
      clear hr1 hr2
      have hne := hS.ne 2 0 rfl rfl (by decide)
      (conv => whnf)
      (refine drawS tabOk mixed [] ((· = b2)) [0, 1, 2, 3, 4, 5, 6, 7, 8, 9, 10] (by kernel_rfl) ?_; rintro w1 rfl; replace hS := hS.drew)
      have hK := hS.ref (· = b2)
      (conv => whnf)
      refine hS.laXF 2 rfl rfl hne ?_
      (conv => whnf)
      refine hS.ldF 2 rfl rfl hne ?_
      (conv => whnf)
      refine brD (fun h11 => ?_) (fun h11 => ?_)
      · (conv => whnf)
        refine hS.ldF 2 rfl rfl hne ?_
        (conv => whnf)
        refine hS.stK hK 0 rfl (Nat.le_of_ble_eq_true rfl) rfl rfl (fun w' hK hS => KeepC.mk hK ?_)
        replace hS : St w No w' [blk b2 77 (encRule r), ownL 9 1 encT (.slice (some ⟨b, 0, none⟩) 4 d) [a, b4, p, n], blk b5 77 (encRule r), ownL 9 1 encT (.slice (some ⟨bw, 0, none⟩) 2 d2) [x, y]] := hS
        (conv => whnf)
        refine hS.laX 0 rfl rfl ?_
        repeat' ((conv => whnf); first | refine RetC.mk ?_ | refine NzC.mk (by decide) ?_ | refine RngC.mk (by omega) (by omega) ?_ | refine IdxC.mk (by omega) (by omega) ?_ | refine brD (fun _ => ?_) (fun _ => ?_) | refine brND (fun _ => ?_) (fun _ => ?_) | refine brN (fun _ => ?_) (fun _ => ?_) | refine brI (fun _ => ?_) (fun _ => ?_))
        refine ⟨⟨r, _, rfl, ?_⟩, hS.ext⟩
        rw [hg]
        by_cases h12 : 0 ≤ r.top
        · rw [if_pos ⟨by omega, h12⟩, if_pos (decide_eq_true (by omega))]
        · rw [if_neg (fun h => h12 h.2), if_neg (fun h => h12 (of_decide_eq_true h))]
      · (conv => whnf)
        refine hS.stK hK 0 rfl (Nat.le_of_ble_eq_true rfl) rfl rfl (fun w' hK hS => KeepC.mk hK ?_)
        replace hS : St w No w' [blk b2 77 (encRule r), ownL 9 1 encT (.slice (some ⟨b, 0, none⟩) 4 d) [a, b4, p, n], blk b5 77 (encRule r), ownL 9 1 encT (.slice (some ⟨bw, 0, none⟩) 2 d2) [x, y]] := hS
        (conv => whnf)
        refine hS.laX 0 rfl rfl ?_
        repeat' ((conv => whnf); first | refine RetC.mk ?_ | refine NzC.mk (by decide) ?_ | refine RngC.mk (by omega) (by omega) ?_ | refine IdxC.mk (by omega) (by omega) ?_ | refine brD (fun _ => ?_) (fun _ => ?_) | refine brND (fun _ => ?_) (fun _ => ?_) | refine brN (fun _ => ?_) (fun _ => ?_) | refine brI (fun _ => ?_) (fun _ => ?_))
        refine ⟨⟨r, _, rfl, ?_⟩, hS.ext⟩
        rw [hg, if_neg (fun h => by omega), if_neg (by simp)]
    (conv => whnf)
    refine eqS2 ?_
    (conv => whnf)
    refine brD (fun h9 => ?_) (fun h9 => ?_)
    · (conv => whnf)
      refine hS.st 2 rfl (Nat.le_of_ble_eq_true rfl) rfl (fun w' hS => ?_)
      have hp : protoK p = 2 := (if_neg h7).trans ((if_neg h8).trans (if_pos h9))
      replace hS : St w No _ [blk b2 77 (encRule noRule), ownL 9 1 encT (.slice (some ⟨b, 0, none⟩) 4 d) [a, b4, p, n], blk b5 77 (encRule ⟨decide (a = sAllow), decide (b4 = sOut), 2, 0, 0⟩)] := hS
      (conv => whnf)
      refine IdxC.mk (by omega) (by omega) ?_
      (conv => whnf)
      refine Ev.ldc (ownT_cell (j := 3) (hS.get 1 rfl) rfl) ?_
      (conv => whnf)
      refine (rcut_ok n 45 (by omega) _).mono ?_
      rintro v w3 ⟨⟨a2, d2, rfl, ho, hf⟩, hx⟩
      replace hS := hS.madeL hx ho hf
      clear hx ho hf
      (conv => whnf)
      refine brND (fun h10 => ?_) (fun h10 => ?_)
      · have hbad := ruleOfS_bad2 hw (by omega)
        (conv => whnf)
        refine hS.st 0 rfl (Nat.le_of_ble_eq_true rfl) rfl (fun w' hS => ?_)
        (conv => whnf)
        refine hS.laX 0 rfl rfl ?_
        repeat' ((conv => whnf); first | refine RetC.mk ?_ | refine NzC.mk (by decide) ?_ | refine RngC.mk (by omega) (by omega) ?_ | refine IdxC.mk (by omega) (by omega) ?_ | refine brD (fun _ => ?_) (fun _ => ?_) | refine brND (fun _ => ?_) (fun _ => ?_) | refine brN (fun _ => ?_) (fun _ => ?_) | refine brI (fun _ => ?_) (fun _ => ?_))
        exact ⟨⟨noRule, false, rfl, hbad⟩, hS.ext⟩
      obtain ⟨x, y, hxy⟩ := words2 (s := n) (by omega)
      have hcl2 := cutR_mem_len (c := 45) (l := n) (w := x) (by rw [hxy]; exact List.mem_cons_self)
      have hcl3 := cutR_mem_len (c := 45) (l := n) (w := y) (by rw [hxy]; exact List.mem_cons_of_mem _ List.mem_cons_self)
      have hg := ruleOfS_good hw ha hb4 hp (by omega) hxy
      rw [hxy] at hS ⊢
      obtain ⟨bw, rfl⟩ := ownT_some (hS.get 3 rfl) (by simp)
      have hl2 : ([x, y] : List (List UInt8)).length = 2 := rfl
      (conv => whnf)
      refine IdxC.mk (by omega) (by omega) ?_
      (conv => whnf)
      refine Ev.ldc (ownT_cell (j := 0) (hS.get 3 rfl) rfl) ?_
      (conv => whnf)
      refine (numberOf_ok x 5 (by omega) (by omega) _).mono ?_
      rintro v w4 ⟨rfl, hx⟩
      replace hS := hS.no hx
      clear hx
      (conv => whnf)
      refine hS.st 2 rfl (Nat.le_of_ble_eq_true rfl) rfl (fun w' hS => ?_)
      (conv => whnf)
      refine IdxC.mk (by omega) (by omega) ?_
      (conv => whnf)
      refine Ev.ldc (ownT_cell (j := 1) (hS.get 3 rfl) rfl) ?_
      (conv => whnf)
      refine (numberOf_ok y 5 (by omega) (by omega) _).mono ?_
      rintro v w5 ⟨rfl, hx⟩
      replace hS := hS.no hx
      clear hx
      (conv => whnf)
      refine hS.st 2 rfl (Nat.le_of_ble_eq_true rfl) rfl (fun w' hS => ?_)
      generalize hr : (⟨decide (a = sAllow), decide (b4 = sOut), 2, numS x 5, numS y 5⟩ : RuleS) = r at hg
      have hr1 : r.low = numS x 5 := by rw [← hr]
      have hr2 : r.top = numS y 5 := by rw [← hr]
      replace hS : St w No w' [blk b2 77 (encRule noRule), ownL 9 1 encT (.slice (some ⟨b, 0, none⟩) 4 d) [a, b4, p, n], blk b5 77 (encRule r), ownL 9 1 encT (.slice (some ⟨bw, 0, none⟩) 2 d2) [x, y]] := by
        rw [← hr]
        exact hS
      rw [← hr1, ← hr2] at hg
      clear hr1 hr2
      have hne := hS.ne 2 0 rfl rfl (by decide)
      (conv => whnf)
      (refine drawS tabOk mixed [] ((· = b2)) [0, 1, 2, 3, 4, 5, 6, 7, 8, 9, 10] (by kernel_rfl) ?_; rintro w1 rfl; replace hS := hS.drew)
      have hK := hS.ref (· = b2)
      (conv => whnf)
      refine hS.laXF 2 rfl rfl hne ?_
      (conv => whnf)
      refine hS.ldF 2 rfl rfl hne ?_
      (conv => whnf)
      refine brD (fun h11 => ?_) (fun h11 => ?_)
      · (conv => whnf)
        refine hS.ldF 2 rfl rfl hne ?_
        (conv => whnf)
        refine hS.stK hK 0 rfl (Nat.le_of_ble_eq_true rfl) rfl rfl (fun w' hK hS => KeepC.mk hK ?_)
        replace hS : St w No w' [blk b2 77 (encRule r), ownL 9 1 encT (.slice (some ⟨b, 0, none⟩) 4 d) [a, b4, p, n], blk b5 77 (encRule r), ownL 9 1 encT (.slice (some ⟨bw, 0, none⟩) 2 d2) [x, y]] := hS
        (conv => whnf)
        refine hS.laX 0 rfl rfl ?_
        repeat' ((conv => whnf); first | refine RetC.mk ?_ | refine NzC.mk (by decide) ?_ | refine RngC.mk (by omega) (by omega) ?_ | refine IdxC.mk (by omega) (by omega) ?_ | refine brD (fun _ => ?_) (fun _ => ?_) | refine brND (fun _ => ?_) (fun _ => ?_) | refine brN (fun _ => ?_) (fun _ => ?_) | refine brI (fun _ => ?_) (fun _ => ?_))
        refine ⟨⟨r, _, rfl, ?_⟩, hS.ext⟩
        rw [hg]
        by_cases h12 : 0 ≤ r.top
        · rw [if_pos ⟨by omega, h12⟩, if_pos (decide_eq_true (by omega))]
        · rw [if_neg (fun h => h12 h.2), if_neg (fun h => h12 (of_decide_eq_true h))]
      · (conv => whnf)
        refine hS.stK hK 0 rfl (Nat.le_of_ble_eq_true rfl) rfl rfl (fun w' hK hS => KeepC.mk hK ?_)
        replace hS : St w No w' [blk b2 77 (encRule r), ownL 9 1 encT (.slice (some ⟨b, 0, none⟩) 4 d) [a, b4, p, n], blk b5 77 (encRule r), ownL 9 1 encT (.slice (some ⟨bw, 0, none⟩) 2 d2) [x, y]] := hS
        (conv => whnf)
        refine hS.laX 0 rfl rfl ?_
        repeat' ((conv => whnf); first | refine RetC.mk ?_ | refine NzC.mk (by decide) ?_ | refine RngC.mk (by omega) (by omega) ?_ | refine IdxC.mk (by omega) (by omega) ?_ | refine brD (fun _ => ?_) (fun _ => ?_) | refine brND (fun _ => ?_) (fun _ => ?_) | refine brN (fun _ => ?_) (fun _ => ?_) | refine brI (fun _ => ?_) (fun _ => ?_))
        refine ⟨⟨r, _, rfl, ?_⟩, hS.ext⟩
        rw [hg, if_neg (fun h => by omega), if_neg (by simp)]
    have g7 : ¬ p = sAny := h7
    have g8 : ¬ p = sUdp := h8
    have g9 : ¬ p = sTcp := h9
    have hbad : ruleOfS s = none := ruleOfS_bad hw (fun h => by
      have h2 := h.2.2
      unfold protoK at h2
      rw [if_neg g7, if_neg g8, if_neg g9] at h2
      exact absurd h2 (by decide))
    (conv => whnf)
    refine hS.st 0 rfl (Nat.le_of_ble_eq_true rfl) rfl (fun w' hS => ?_)
    (conv => whnf)
    refine hS.laX 0 rfl rfl ?_
    repeat' ((conv => whnf); first | refine RetC.mk ?_ | refine NzC.mk (by decide) ?_ | refine RngC.mk (by omega) (by omega) ?_ | refine IdxC.mk (by omega) (by omega) ?_ | refine brD (fun _ => ?_) (fun _ => ?_) | refine brND (fun _ => ?_) (fun _ => ?_) | refine brN (fun _ => ?_) (fun _ => ?_) | refine brI (fun _ => ?_) (fun _ => ?_))
    exact ⟨⟨noRule, false, rfl, hbad⟩, hS.ext⟩
  (conv => whnf)
  refine IdxC.mk (by omega) (by omega) ?_
  (conv => whnf)
  refine Ev.ldc (ownT_cell (j := 1) (hS.get 1 rfl) rfl) ?_
  (conv => whnf)
  refine neS2 ?_
  (conv => whnf)
  refine brND (fun h5 => ?_) (fun h5 => ?_)
  · (conv => whnf)
    refine IdxC.mk (by omega) (by omega) ?_
    (conv => whnf)
    refine Ev.ldc (ownT_cell (j := 1) (hS.get 1 rfl) rfl) ?_
    (conv => whnf)
    refine neS2 ?_
    (conv => whnf)
    refine brND (fun h6 => ?_) (fun h6 => ?_)
    · have hbad : ruleOfS s = none := ruleOfS_bad hw (fun h => h.2.1.elim h5 h6)
      (conv => whnf)
      refine hS.st 0 rfl (Nat.le_of_ble_eq_true rfl) rfl (fun w' hS => ?_)
      (conv => whnf)
      refine hS.laX 0 rfl rfl ?_
      repeat' ((conv => whnf); first | refine RetC.mk ?_ | refine NzC.mk (by decide) ?_ | refine RngC.mk (by omega) (by omega) ?_ | refine IdxC.mk (by omega) (by omega) ?_ | refine brD (fun _ => ?_) (fun _ => ?_) | refine brND (fun _ => ?_) (fun _ => ?_) | refine brN (fun _ => ?_) (fun _ => ?_) | refine brI (fun _ => ?_) (fun _ => ?_))
      exact ⟨⟨noRule, false, rfl, hbad⟩, hS.ext⟩
    have ha : a = sAllow ∨ a = sDeny := .inl h1
    have hb4 : b4 = sOut ∨ b4 = sIn := .inr h6
    (conv => whnf)
    refine IdxC.mk (by omega) (by omega) ?_
    (conv => whnf)
    refine Ev.ldc (ownT_cell (j := 2) (hS.get 1 rfl) rfl) ?_
    (conv => whnf)
    refine eqS2 ?_
    (conv => whnf)
    refine brD (fun h7 => ?_) (fun h7 => ?_)
    · (conv => whnf)
      refine hS.st 2 rfl (Nat.le_of_ble_eq_true rfl) rfl (fun w' hS => ?_)
      have hp : protoK p = 0 := if_pos h7
      replace hS : St w No _ [blk b2 77 (encRule noRule), ownL 9 1 encT (.slice (some ⟨b, 0, none⟩) 4 d) [a, b4, p, n], blk b5 77 (encRule ⟨decide (a = sAllow), decide (b4 = sOut), 0, 0, 0⟩)] := hS
      (conv => whnf)
      refine IdxC.mk (by omega) (by omega) ?_
      (conv => whnf)
      refine Ev.ldc (ownT_cell (j := 3) (hS.get 1 rfl) rfl) ?_
      (conv => whnf)
      refine (rcut_ok n 45 (by omega) _).mono ?_
      rintro v w3 ⟨⟨a2, d2, rfl, ho, hf⟩, hx⟩
      replace hS := hS.madeL hx ho hf
      clear hx ho hf
      (conv => whnf)
      refine brND (fun h10 => ?_) (fun h10 => ?_)
      · have hbad := ruleOfS_bad2 hw (by omega)
        (conv => whnf)
        refine hS.st 0 rfl (Nat.le_of_ble_eq_true rfl) rfl (fun w' hS => ?_)
        (conv => whnf)
        refine hS.laX 0 rfl rfl ?_
        repeat' ((conv => whnf); first | refine RetC.mk ?_ | refine NzC.mk (by decide) ?_ | refine RngC.mk (by omega) (by omega) ?_ | refine IdxC.mk (by omega) (by omega) ?_ | refine brD (fun _ => ?_) (fun _ => ?_) | refine brND (fun _ => ?_) (fun _ => ?_) | refine brN (fun _ => ?_) (fun _ => ?_) | refine brI (fun _ => ?_) (fun _ => ?_))
        exact ⟨⟨noRule, false, rfl, hbad⟩, hS.ext⟩
      obtain ⟨x, y, hxy⟩ := words2 (s := n) (by omega)
      have hcl2 := cutR_mem_len (c := 45) (l := n) (w := x) (by rw [hxy]; exact List.mem_cons_self)
      have hcl3 := cutR_mem_len (c := 45) (l := n) (w := y) (by rw [hxy]; exact List.mem_cons_of_mem _ List.mem_cons_self)
      have hg := ruleOfS_good hw ha hb4 hp (by omega) hxy
      rw [hxy] at hS ⊢
      obtain ⟨bw, rfl⟩ := ownT_some (hS.get 3 rfl) (by simp)
      have hl2 : ([x, y] : List (List UInt8)).length = 2 := rfl
      (conv => whnf)
      refine IdxC.mk (by omega) (by omega) ?_
      (conv => whnf)
      refine Ev.ldc (ownT_cell (j := 0) (hS.get 3 rfl) rfl) ?_
      (conv => whnf)
      refine (numberOf_ok x 5 (by omega) (by omega) _).mono ?_
      rintro v w4 ⟨rfl, hx⟩
      replace hS := hS.no hx
      clear hx
      (conv => whnf)
      refine hS.st 2 rfl (Nat.le_of_ble_eq_true rfl) rfl (fun w' hS => ?_)
      (conv => whnf)
      refine IdxC.mk (by omega) (by omega) ?_
      (conv => whnf)
      refine Ev.ldc (ownT_cell (j := 1) (hS.get 3 rfl) rfl) ?_
      (conv => whnf)
      refine (numberOf_ok y 5 (by omega) (by omega) _).mono ?_
      rintro v w5 ⟨rfl, hx⟩
      replace hS := hS.no hx
      clear hx
      (conv => whnf)
      refine hS.st 2 rfl (Nat.le_of_ble_eq_true rfl) rfl (fun w' hS => ?_)
      generalize hr : (⟨decide (a = sAllow), decide (b4 = sOut), 0, numS x 5, numS y 5⟩ : RuleS) = r at hg
      have hr1 : r.low = numS x 5 := by rw [← hr]
      have hr2 : r.top = numS y 5 := by rw [← hr]
      replace hS : St w No w' [blk b2 77 (encRule noRule), ownL 9 1 encT (.slice (some ⟨b, 0, none⟩) 4 d) [a, b4, p, n], blk b5 77 (encRule r), ownL 9 1 encT (.slice (some ⟨bw, 0, none⟩) 2 d2) [x, y]] := by
        rw [← hr]
        exact hS
      rw [← hr1, ← hr2] at hg
      clear hr1 hr2
      have hne := hS.ne 2 0 rfl rfl (by decide)
      (conv => whnf)
      (refine drawS tabOk mixed [] ((· = b2)) [0, 1, 2, 3, 4, 5, 6, 7, 8, 9, 10] (by kernel_rfl) ?_; rintro w1 rfl; replace hS := hS.drew)
      have hK := hS.ref (· = b2)
      (conv => whnf)
      refine hS.laXF 2 rfl rfl hne ?_
      (conv => whnf)
      refine hS.ldF 2 rfl rfl hne ?_
      (conv => whnf)
      refine brD (fun h11 => ?_) (fun h11 => ?_)
      · (conv => whnf)
        refine hS.ldF 2 rfl rfl hne ?_
        (conv => whnf)
        refine hS.stK hK 0 rfl (Nat.le_of_ble_eq_true rfl) rfl rfl (fun w' hK hS => KeepC.mk hK ?_)
        replace hS : St w No w' [blk b2 77 (encRule r), ownL 9 1 encT (.slice (some ⟨b, 0, none⟩) 4 d) [a, b4, p, n], blk b5 77 (encRule r), ownL 9 1 encT (.slice (some ⟨bw, 0, none⟩) 2 d2) [x, y]] := hS
        (conv => whnf)
        refine hS.laX 0 rfl rfl ?_
        repeat' ((conv => whnf); first | refine RetC.mk ?_ | refine NzC.mk (by decide) ?_ | refine RngC.mk (by omega) (by omega) ?_ | refine IdxC.mk (by omega) (by omega) ?_ | refine brD (fun _ => ?_) (fun _ => ?_) | refine brND (fun _ => ?_) (fun _ => ?_) | refine brN (fun _ => ?_) (fun _ => ?_) | refine brI (fun _ => ?_) (fun _ => ?_))
        refine ⟨⟨r, _, rfl, ?_⟩, hS.ext⟩
        rw [hg]
        by_cases h12 : 0 ≤ r.top
        · rw [if_pos ⟨by omega, h12⟩, if_pos (decide_eq_true (by omega))]
        · rw [if_neg (fun h => h12 h.2), if_neg (fun h => h12 (of_decide_eq_true h))]
      · (conv => whnf)
        refine hS.stK hK 0 rfl (Nat.le_of_ble_eq_true rfl) rfl rfl (fun w' hK hS => KeepC.mk hK ?_)
        replace hS : St w No w' [blk b2 77 (encRule r), ownL 9 1 encT (.slice (some ⟨b, 0, none⟩) 4 d) [a, b4, p, n], blk b5 77 (encRule r), ownL 9 1 encT (.slice (some ⟨bw, 0, none⟩) 2 d2) [x, y]] := hS
        (conv => whnf)
        refine hS.laX 0 rfl rfl ?_
        repeat' ((conv => whnf); first | refine RetC.mk ?_ | refine NzC.mk (by decide) ?_ | refine RngC.mk (by omega) (by omega) ?_ | refine IdxC.mk (by omega) (by omega) ?_ | refine brD (fun _ => ?_) (fun _ => ?_) | refine brND (fun _ => ?_) (fun _ => ?_) | refine brN (fun _ => ?_) (fun _ => ?_) | refine brI (fun _ => ?_) (fun _ => ?_))
        refine ⟨⟨r, _, rfl, ?_⟩, hS.ext⟩
        rw [hg, if_neg (fun h => by omega), if_neg (by simp)]
    (conv => whnf)
    refine eqS2 ?_
    (conv => whnf)
    refine brD (fun h8 => ?_) (fun h8 => ?_)
    · (conv => whnf)
      refine hS.st 2 rfl (Nat.le_of_ble_eq_true rfl) rfl (fun w' hS => ?_)
      have hp : protoK p = 1 := (if_neg h7).trans (if_pos h8)
      replace hS : St w No _ [blk b2 77 (encRule noRule), ownL 9 1 encT (.slice (some ⟨b, 0, none⟩) 4 d) [a, b4, p, n], blk b5 77 (encRule ⟨decide (a = sAllow), decide (b4 = sOut), 1, 0, 0⟩)] := hS
      (conv => whnf)
      refine IdxC.mk (by omega) (by omega) ?_
      (conv => whnf)
      refine Ev.ldc (ownT_cell (j := 3) (hS.get 1 rfl) rfl) ?_
      (conv => whnf)
      refine (rcut_ok n 45 (by omega) _).mono ?_
      rintro v w3 ⟨⟨a2, d2, rfl, ho, hf⟩, hx⟩
      replace hS := hS.madeL hx ho hf
      clear hx ho hf
      (conv => whnf)
      refine brND (fun h10 => ?_) (fun h10 => ?_)
      · have hbad := ruleOfS_bad2 hw (by omega)
        (conv => whnf)
        refine hS.st 0 rfl (Nat.le_of_ble_eq_true rfl) rfl (fun w' hS => ?_)
        (conv => whnf)
        refine hS.laX 0 rfl rfl ?_
        repeat' ((conv => whnf); first | refine RetC.mk ?_ | refine NzC.mk (by decide) ?_ | refine RngC.mk (by omega) (by omega) ?_ | refine IdxC.mk (by omega) (by omega) ?_ | refine brD (fun _ => ?_) (fun _ => ?_) | refine brND (fun _ => ?_) (fun _ => ?_) | refine brN (fun _ => ?_) (fun _ => ?_) | refine brI (fun _ => ?_) (fun _ => ?_))
        exact ⟨⟨noRule, false, rfl, hbad⟩, hS.ext⟩
      obtain ⟨x, y, hxy⟩ := words2 (s := n) (by omega)
      have hcl2 := cutR_mem_len (c := 45) (l := n) (w := x) (by rw [hxy]; exact List.mem_cons_self)
      have hcl3 := cutR_mem_len (c := 45) (l := n) (w := y) (by rw [hxy]; exact List.mem_cons_of_mem _ List.mem_cons_self)
      have hg := ruleOfS_good hw ha hb4 hp (by omega) hxy
      rw [hxy] at hS ⊢
      obtain ⟨bw, rfl⟩ := ownT_some (hS.get 3 rfl) (by simp)
      have hl2 : ([x, y] : List (List UInt8)).length = 2 := rfl
      (conv => whnf)
      refine IdxC.mk (by omega) (by omega) ?_
      (conv => whnf)
      refine Ev.ldc (ownT_cell (j := 0) (hS.get 3 rfl) rfl) ?_
      (conv => whnf)
      refine (numberOf_ok x 5 (by omega) (by omega) _).mono ?_
      rintro v w4 ⟨rfl, hx⟩
      replace hS := hS.no hx
      clear hx
      (conv => whnf)
      refine hS.st 2 rfl (Nat.le_of_ble_eq_true rfl) rfl (fun w' hS => ?_)
      (conv => whnf)
      refine IdxC.mk (by omega) (by omega) ?_
      (conv => whnf)
      refine Ev.ldc (ownT_cell (j := 1) (hS.get 3 rfl) rfl) ?_
      (conv => whnf)
      refine (numberOf_ok y 5 (by omega) (by omega) _).mono ?_
      rintro v w5 ⟨rfl, hx⟩
      replace hS := hS.no hx
      clear hx
      (conv => whnf)
      refine hS.st 2 rfl (Nat.le_of_ble_eq_true rfl) rfl (fun w' hS => ?_)
      generalize hr : (⟨decide (a = sAllow), decide (b4 = sOut), 1, numS x 5, numS y 5⟩ : RuleS) = r at hg
      have hr1 : r.low = numS x 5 := by rw [← hr]
      have hr2 : r.top = numS y 5 := by rw [← hr]
      replace hS : St w No w' [blk b2 77 (encRule noRule), ownL 9 1 encT (.slice (some ⟨b, 0, none⟩) 4 d) [a, b4, p, n], blk b5 77 (encRule r), ownL 9 1 encT (.slice (some ⟨bw, 0, none⟩) 2 d2) [x, y]] := by
        rw [← hr]
        exact hS
      rw [← hr1, ← hr2] at hg
      clear hr1 hr2
      have hne := hS.ne 2 0 rfl rfl (by decide)
      (conv => whnf)
      (refine drawS tabOk mixed [] ((· = b2)) [0, 1, 2, 3, 4, 5, 6, 7, 8, 9, 10] (by kernel_rfl) ?_; rintro w1 rfl; replace hS := hS.drew)
      have hK := hS.ref (· = b2)
      (conv => whnf)
      refine hS.laXF 2 rfl rfl hne ?_
      (conv => whnf)
      refine hS.ldF 2 rfl rfl hne ?_
      (conv => whnf)
      refine brD (fun h11 => ?_) (fun h11 => ?_)
      · (conv => whnf)
        refine hS.ldF 2 rfl rfl hne ?_
        (conv => whnf)
        refine hS.stK hK 0 rfl (Nat.le_of_ble_eq_true rfl) rfl rfl (fun w' hK hS => KeepC.mk hK ?_)
        replace hS : St w No w' [blk b2 77 (encRule r), ownL 9 1 encT (.slice (some ⟨b, 0, none⟩) 4 d) [a, b4, p, n], blk b5 77 (encRule r), ownL 9 1 encT (.slice (some ⟨bw, 0, none⟩) 2 d2) [x, y]] := hS
        (conv => whnf)
        refine hS.laX 0 rfl rfl ?_
        repeat' ((conv => whnf); first | refine RetC.mk ?_ | refine NzC.mk (by decide) ?_ | refine RngC.mk (by omega) (by omega) ?_ | refine IdxC.mk (by omega) (by omega) ?_ | refine brD (fun _ => ?_) (fun _ => ?_) | refine brND (fun _ => ?_) (fun _ => ?_) | refine brN (fun _ => ?_) (fun _ => ?_) | refine brI (fun _ => ?_) (fun _ => ?_))
        refine ⟨⟨r, _, rfl, ?_⟩, hS.ext⟩
        rw [hg]
        by_cases h12 : 0 ≤ r.top
        · rw [if_pos ⟨by omega, h12⟩, if_pos (decide_eq_true (by omega))]
        · rw [if_neg (fun h => h12 h.2), if_neg (fun h => h12 (of_decide_eq_true h))]
      · (conv => whnf)
        refine hS.stK hK 0 rfl (Nat.le_of_ble_eq_true rfl) rfl rfl (fun w' hK hS => KeepC.mk hK ?_)
        replace hS : St w No w' [blk b2 77 (encRule r), ownL 9 1 encT (.slice (some ⟨b, 0, none⟩) 4 d) [a, b4, p, n], blk b5 77 (encRule r), ownL 9 1 encT (.slice (some ⟨bw, 0, none⟩) 2 d2) [x, y]] := hS
        (conv => whnf)
        refine hS.laX 0 rfl rfl ?_
        repeat' ((conv => whnf); first | refine RetC.mk ?_ | refine NzC.mk (by decide) ?_ | refine RngC.mk (by omega) (by omega) ?_ | refine IdxC.mk (by omega) (by omega) ?_ | refine brD (fun _ => ?_) (fun _ => ?_) | refine brND (fun _ => ?_) (fun _ => ?_) | refine brN (fun _ => ?_) (fun _ => ?_) | refine brI (fun _ => ?_) (fun _ => ?_))
        refine ⟨⟨r, _, rfl, ?_⟩, hS.ext⟩
        rw [hg, if_neg (fun h => by omega), if_neg (by simp)]
    (conv => whnf)
    refine eqS2 ?_
    (conv => whnf)
    refine brD (fun h9 => ?_) (fun h9 => ?_)
    · (conv => whnf)
      refine hS.st 2 rfl (Nat.le_of_ble_eq_true rfl) rfl (fun w' hS => ?_)
      have hp : protoK p = 2 := (if_neg h7).trans ((if_neg h8).trans (if_pos h9))
      replace hS : St w No _ [blk b2 77 (encRule noRule), ownL 9 1 encT (.slice (some ⟨b, 0, none⟩) 4 d) [a, b4, p, n], blk b5 77 (encRule ⟨decide (a = sAllow), decide (b4 = sOut), 2, 0, 0⟩)] := hS
      (conv => whnf)
      refine IdxC.mk (by omega) (by omega) ?_
      (conv => whnf)
      refine Ev.ldc (ownT_cell (j := 3) (hS.get 1 rfl) rfl) ?_
      (conv => whnf)
      refine (rcut_ok n 45 (by omega) _).mono ?_
      rintro v w3 ⟨⟨a2, d2, rfl, ho, hf⟩, hx⟩
      replace hS := hS.madeL hx ho hf
      clear hx ho hf
      (conv => whnf)
      refine brND (fun h10 => ?_) (fun h10 => ?_)
      · have hbad := ruleOfS_bad2 hw (by omega)
        (conv => whnf)
        refine hS.st 0 rfl (Nat.le_of_ble_eq_true rfl) rfl (fun w' hS => ?_)
        (conv => whnf)
        refine hS.laX 0 rfl rfl ?_
        repeat' ((conv => whnf); first | refine RetC.mk ?_ | refine NzC.mk (by decide) ?_ | refine RngC.mk (by omega) (by omega) ?_ | refine IdxC.mk (by omega) (by omega) ?_ | refine brD (fun _ => ?_) (fun _ => ?_) | refine brND (fun _ => ?_) (fun _ => ?_) | refine brN (fun _ => ?_) (fun _ => ?_) | refine brI (fun _ => ?_) (fun _ => ?_))
        exact ⟨⟨noRule, false, rfl, hbad⟩, hS.ext⟩
      obtain ⟨x, y, hxy⟩ := words2 (s := n) (by omega)
      have hcl2 := cutR_mem_len (c := 45) (l := n) (w := x) (by rw [hxy]; exact List.mem_cons_self)
      have hcl3 := cutR_mem_len (c := 45) (l := n) (w := y) (by rw [hxy]; exact List.mem_cons_of_mem _ List.mem_cons_self)
      have hg := ruleOfS_good hw ha hb4 hp (by omega) hxy
      rw [hxy] at hS ⊢
      obtain ⟨bw, rfl⟩ := ownT_some (hS.get 3 rfl) (by simp)
      have hl2 : ([x, y] : List (List UInt8)).length = 2 := rfl
      (conv => whnf)
      refine IdxC.mk (by omega) (by omega) ?_
      (conv => whnf)
      refine Ev.ldc (ownT_cell (j := 0) (hS.get 3 rfl) rfl) ?_
      (conv => whnf)
      refine (numberOf_ok x 5 (by omega) (by omega) _).mono ?_
      rintro v w4 ⟨rfl, hx⟩
      replace hS := hS.no hx
      clear hx
      (conv => whnf)
      refine hS.st 2 rfl (Nat.le_of_ble_eq_true rfl) rfl (fun w' hS => ?_)
      (conv => whnf)
      refine IdxC.mk (by omega) (by omega) ?_
      (conv => whnf)
      refine Ev.ldc (ownT_cell (j := 1) (hS.get 3 rfl) rfl) ?_
      (conv => whnf)
      refine (numberOf_ok y 5 (by omega) (by omega) _).mono ?_
      rintro v w5 ⟨rfl, hx⟩
      replace hS := hS.no hx
      clear hx
      (conv => whnf)
      refine hS.st 2 rfl (Nat.le_of_ble_eq_true rfl) rfl (fun w' hS => ?_)
      generalize hr : (⟨decide (a = sAllow), decide (b4 = sOut), 2, numS x 5, numS y 5⟩ : RuleS) = r at hg
      have hr1 : r.low = numS x 5 := by rw [← hr]
      have hr2 : r.top = numS y 5 := by rw [← hr]
      replace hS : St w No w' [blk b2 77 (encRule noRule), ownL 9 1 encT (.slice (some ⟨b, 0, none⟩) 4 d) [a, b4, p, n], blk b5 77 (encRule r), ownL 9 1 encT (.slice (some ⟨bw, 0, none⟩) 2 d2) [x, y]] := by
        rw [← hr]
        exact hS
      rw [← hr1, ← hr2] at hg
      clear hr1 hr2
      have hne := hS.ne 2 0 rfl rfl (by decide)
      (conv => whnf)
      (refine drawS tabOk mixed [] ((· = b2)) [0, 1, 2, 3, 4, 5, 6, 7, 8, 9, 10] (by kernel_rfl) ?_; rintro w1 rfl; replace hS := hS.drew)
      have hK := hS.ref (· = b2)
      (conv => whnf)
      refine hS.laXF 2 rfl rfl hne ?_
      (conv => whnf)
      refine hS.ldF 2 rfl rfl hne ?_
      (conv => whnf)
      refine brD (fun h11 => ?_) (fun h11 => ?_)
      · (conv => whnf)
        refine hS.ldF 2 rfl rfl hne ?_
        (conv => whnf)
        refine hS.stK hK 0 rfl (Nat.le_of_ble_eq_true rfl) rfl rfl (fun w' hK hS => KeepC.mk hK ?_)
        replace hS : St w No w' [blk b2 77 (encRule r), ownL 9 1 encT (.slice (some ⟨b, 0, none⟩) 4 d) [a, b4, p, n], blk b5 77 (encRule r), ownL 9 1 encT (.slice (some ⟨bw, 0, none⟩) 2 d2) [x, y]] := hS
        (conv => whnf)
        refine hS.laX 0 rfl rfl ?_
        repeat' ((conv => whnf); first | refine RetC.mk ?_ | refine NzC.mk (by decide) ?_ | refine RngC.mk (by omega) (by omega) ?_ | refine IdxC.mk (by omega) (by omega) ?_ | refine brD (fun _ => ?_) (fun _ => ?_) | refine brND (fun _ => ?_) (fun _ => ?_) | refine brN (fun _ => ?_) (fun _ => ?_) | refine brI (fun _ => ?_) (fun _ => ?_))
        refine ⟨⟨r, _, rfl, ?_⟩, hS.ext⟩
        rw [hg]
        by_cases h12 : 0 ≤ r.top
        · rw [if_pos ⟨by omega, h12⟩, if_pos (decide_eq_true (by omega))]
        · rw [if_neg (fun h => h12 h.2), if_neg (fun h => h12 (of_decide_eq_true h))]
      · (conv => whnf)
        refine hS.stK hK 0 rfl (Nat.le_of_ble_eq_true rfl) rfl rfl (fun w' hK hS => KeepC.mk hK ?_)
        replace hS : St w No w' [blk b2 77 (encRule r), ownL 9 1 encT (.slice (some ⟨b, 0, none⟩) 4 d) [a, b4, p, n], blk b5 77 (encRule r), ownL 9 1 encT (.slice (some ⟨bw, 0, none⟩) 2 d2) [x, y]] := hS
        (conv => whnf)
        refine hS.laX 0 rfl rfl ?_
        repeat' ((conv => whnf); first | refine RetC.mk ?_ | refine NzC.mk (by decide) ?_ | refine RngC.mk (by omega) (by omega) ?_ | refine IdxC.mk (by omega) (by omega) ?_ | refine brD (fun _ => ?_) (fun _ => ?_) | refine brND (fun _ => ?_) (fun _ => ?_) | refine brN (fun _ => ?_) (fun _ => ?_) | refine brI (fun _ => ?_) (fun _ => ?_))
        refine ⟨⟨r, _, rfl, ?_⟩, hS.ext⟩
        rw [hg, if_neg (fun h => by omega), if_neg (by simp)]
    have g7 : ¬ p = sAny := h7
    have g8 : ¬ p = sUdp := h8
    have g9 : ¬ p = sTcp := h9
    have hbad : ruleOfS s = none := ruleOfS_bad hw (fun h => by
      have h2 := h.2.2
      unfold protoK at h2
      rw [if_neg g7, if_neg g8, if_neg g9] at h2
      exact absurd h2 (by decide))
    (conv => whnf)
    refine hS.st 0 rfl (Nat.le_of_ble_eq_true rfl) rfl (fun w' hS => ?_)
    (conv => whnf)
    refine hS.laX 0 rfl rfl ?_
    repeat' ((conv => whnf); first | refine RetC.mk ?_ | refine NzC.mk (by decide) ?_ | refine RngC.mk (by omega) (by omega) ?_ | refine IdxC.mk (by omega) (by omega) ?_ | refine brD (fun _ => ?_) (fun _ => ?_) | refine brND (fun _ => ?_) (fun _ => ?_) | refine brN (fun _ => ?_) (fun _ => ?_) | refine brI (fun _ => ?_) (fun _ => ?_))
    exact ⟨⟨noRule, false, rfl, hbad⟩, hS.ext⟩
  have ha : a = sAllow ∨ a = sDeny := .inl h1
  have hb4 : b4 = sOut ∨ b4 = sIn := .inl h5
  (conv => whnf)
  refine IdxC.mk (by omega) (by omega) ?_
  (conv => whnf)
  refine Ev.ldc (ownT_cell (j := 2) (hS.get 1 rfl) rfl) ?_
  (conv => whnf)
  refine eqS2 ?_
  (conv => whnf)
  refine brD (fun h7 => ?_) (fun h7 => ?_)
  · (conv => whnf)
    refine hS.st 2 rfl (Nat.le_of_ble_eq_true rfl) rfl (fun w' hS => ?_)
    have hp : protoK p = 0 := if_pos h7
    replace hS : St w No _ [blk b2 77 (encRule noRule), ownL 9 1 encT (.slice (some ⟨b, 0, none⟩) 4 d) [a, b4, p, n], blk b5 77 (encRule ⟨decide (a = sAllow), decide (b4 = sOut), 0, 0, 0⟩)] := hS
    (conv => whnf)
    refine IdxC.mk (by omega) (by omega) ?_
    (conv => whnf)
    refine Ev.ldc (ownT_cell (j := 3) (hS.get 1 rfl) rfl) ?_
    (conv => whnf)
    refine (rcut_ok n 45 (by omega) _).mono ?_
    rintro v w3 ⟨⟨a2, d2, rfl, ho, hf⟩, hx⟩
    replace hS := hS.madeL hx ho hf
    clear hx ho hf
    (conv => whnf)
    refine brND (fun h10 => ?_) (fun h10 => ?_)
    · have hbad := ruleOfS_bad2 hw (by omega)
      (conv => whnf)
      refine hS.st 0 rfl (Nat.le_of_ble_eq_true rfl) rfl (fun w' hS => ?_)
      (conv => whnf)
      refine hS.laX 0 rfl rfl ?_
      repeat' ((conv => whnf); first | refine RetC.mk ?_ | refine NzC.mk (by decide) ?_ | refine RngC.mk (by omega) (by omega) ?_ | refine IdxC.mk (by omega) (by omega) ?_ | refine brD (fun _ => ?_) (fun _ => ?_) | refine brND (fun _ => ?_) (fun _ => ?_) | refine brN (fun _ => ?_) (fun _ => ?_) | refine brI (fun _ => ?_) (fun _ => ?_))
      exact ⟨⟨noRule, false, rfl, hbad⟩, hS.ext⟩
    obtain ⟨x, y, hxy⟩ := words2 (s := n) (by omega)
    have hcl2 := cutR_mem_len (c := 45) (l := n) (w := x) (by rw [hxy]; exact List.mem_cons_self)
    have hcl3 := cutR_mem_len (c := 45) (l := n) (w := y) (by rw [hxy]; exact List.mem_cons_of_mem _ List.mem_cons_self)
    have hg := ruleOfS_good hw ha hb4 hp (by omega) hxy
    rw [hxy] at hS ⊢
    obtain ⟨bw, rfl⟩ := ownT_some (hS.get 3 rfl) (by simp)
    have hl2 : ([x, y] : List (List UInt8)).length = 2 := rfl
    (conv => whnf)
    refine IdxC.mk (by omega) (by omega) ?_
    (conv => whnf)
    refine Ev.ldc (ownT_cell (j := 0) (hS.get 3 rfl) rfl) ?_
    (conv => whnf)
    refine (numberOf_ok x 5 (by omega) (by omega) _).mono ?_
    rintro v w4 ⟨rfl, hx⟩
    replace hS := hS.no hx
    clear hx
    (conv => whnf)
    refine hS.st 2 rfl (Nat.le_of_ble_eq_true rfl) rfl (fun w' hS => ?_)
    (conv => whnf)
    refine IdxC.mk (by omega) (by omega) ?_
    (conv => whnf)
    refine Ev.ldc (ownT_cell (j := 1) (hS.get 3 rfl) rfl) ?_
    (conv => whnf)
    refine (numberOf_ok y 5 (by omega) (by omega) _).mono ?_
    rintro v w5 ⟨rfl, hx⟩
    replace hS := hS.no hx
    clear hx
    (conv => whnf)
    refine hS.st 2 rfl (Nat.le_of_ble_eq_true rfl) rfl (fun w' hS => ?_)
    generalize hr : (⟨decide (a = sAllow), decide (b4 = sOut), 0, numS x 5, numS y 5⟩ : RuleS) = r at hg
    have hr1 : r.low = numS x 5 := by rw [← hr]
    have hr2 : r.top = numS y 5 := by rw [← hr]
    replace hS : St w No w' [blk b2 77 (encRule noRule), ownL 9 1 encT (.slice (some ⟨b, 0, none⟩) 4 d) [a, b4, p, n], blk b5 77 (encRule r), ownL 9 1 encT (.slice (some ⟨bw, 0, none⟩) 2 d2) [x, y]] := by
      rw [← hr]
      exact hS
    rw [← hr1, ← hr2] at hg
    clear hr1 hr2
    have hne := hS.ne 2 0 rfl rfl (by decide)
    (conv => whnf)
    (refine drawS tabOk mixed [] ((· = b2)) [0, 1, 2, 3, 4, 5, 6, 7, 8, 9, 10] (by kernel_rfl) ?_; rintro w1 rfl; replace hS := hS.drew)
    have hK := hS.ref (· = b2)
    (conv => whnf)
    refine hS.laXF 2 rfl rfl hne ?_
    (conv => whnf)
    refine hS.ldF 2 rfl rfl hne ?_
    (conv => whnf)
    refine brD (fun h11 => ?_) (fun h11 => ?_)
    · (conv => whnf)
      refine hS.ldF 2 rfl rfl hne ?_
      (conv => whnf)
      refine hS.stK hK 0 rfl (Nat.le_of_ble_eq_true rfl) rfl rfl (fun w' hK hS => KeepC.mk hK ?_)
      replace hS : St w No w' [blk b2 77 (encRule r), ownL 9 1 encT (.slice (some ⟨b, 0, none⟩) 4 d) [a, b4, p, n], blk b5 77 (encRule r), ownL 9 1 encT (.slice (some ⟨bw, 0, none⟩) 2 d2) [x, y]] := hS
      (conv => whnf)
      refine hS.laX 0 rfl rfl ?_
      repeat' ((conv => whnf); first | refine RetC.mk ?_ | refine NzC.mk (by decide) ?_ | refine RngC.mk (by omega) (by omega) ?_ | refine IdxC.mk (by omega) (by omega) ?_ | refine brD (fun _ => ?_) (fun _ => ?_) | refine brND (fun _ => ?_) (fun _ => ?_) | refine brN (fun _ => ?_) (fun _ => ?_) | refine brI (fun _ => ?_) (fun _ => ?_))
      refine ⟨⟨r, _, rfl, ?_⟩, hS.ext⟩
      rw [hg]
      by_cases h12 : 0 ≤ r.top
      · rw [if_pos ⟨by omega, h12⟩, if_pos (decide_eq_true (by omega))]
      · rw [if_neg (fun h => h12 h.2), if_neg (fun h => h12 (of_decide_eq_true h))]
    · (conv => whnf)
      refine hS.stK hK 0 rfl (Nat.le_of_ble_eq_true rfl) rfl rfl (fun w' hK hS => KeepC.mk hK ?_)
      replace hS : St w No w' [blk b2 77 (encRule r), ownL 9 1 encT (.slice (some ⟨b, 0, none⟩) 4 d) [a, b4, p, n], blk b5 77 (encRule r), ownL 9 1 encT (.slice (some ⟨bw, 0, none⟩) 2 d2) [x, y]] := hS
      (conv => whnf)
      refine hS.laX 0 rfl rfl ?_
      repeat' ((conv => whnf); first | refine RetC.mk ?_ | refine NzC.mk (by decide) ?_ | refine RngC.mk (by omega) (by omega) ?_ | refine IdxC.mk (by omega) (by omega) ?_ | refine brD (fun _ => ?_) (fun _ => ?_) | refine brND (fun _ => ?_) (fun _ => ?_) | refine brN (fun _ => ?_) (fun _ => ?_) | refine brI (fun _ => ?_) (fun _ => ?_))
      refine ⟨⟨r, _, rfl, ?_⟩, hS.ext⟩
      rw [hg, if_neg (fun h => by omega), if_neg (by simp)]
  (conv => whnf)
  refine eqS2 ?_
  (conv => whnf)
  refine brD (fun h8 => ?_) (fun h8 => ?_)
  · (conv => whnf)
    refine hS.st 2 rfl (Nat.le_of_ble_eq_true rfl) rfl (fun w' hS => ?_)
    have hp : protoK p = 1 := (if_neg h7).trans (if_pos h8)
    replace hS : St w No _ [blk b2 77 (encRule noRule), ownL 9 1 encT (.slice (some ⟨b, 0, none⟩) 4 d) [a, b4, p, n], blk b5 77 (encRule ⟨decide (a = sAllow), decide (b4 = sOut), 1, 0, 0⟩)] := hS
    (conv => whnf)
    refine IdxC.mk (by omega) (by omega) ?_
    (conv => whnf)
    refine Ev.ldc (ownT_cell (j := 3) (hS.get 1 rfl) rfl) ?_
    (conv => whnf)
    refine (rcut_ok n 45 (by omega) _).mono ?_
    rintro v w3 ⟨⟨a2, d2, rfl, ho, hf⟩, hx⟩
    replace hS := hS.madeL hx ho hf
    clear hx ho hf
    (conv => whnf)
    refine brND (fun h10 => ?_) (fun h10 => ?_)
    · have hbad := ruleOfS_bad2 hw (by omega)
      (conv => whnf)
      refine hS.st 0 rfl (Nat.le_of_ble_eq_true rfl) rfl (fun w' hS => ?_)
      (conv => whnf)
      refine hS.laX 0 rfl rfl ?_
      repeat' ((conv => whnf); first | refine RetC.mk ?_ | refine NzC.mk (by decide) ?_ | refine RngC.mk (by omega) (by omega) ?_ | refine IdxC.mk (by omega) (by omega) ?_ | refine brD (fun _ => ?_) (fun _ => ?_) | refine brND (fun _ => ?_) (fun _ => ?_) | refine brN (fun _ => ?_) (fun _ => ?_) | refine brI (fun _ => ?_) (fun _ => ?_))
      exact ⟨⟨noRule, false, rfl, hbad⟩, hS.ext⟩
    obtain ⟨x, y, hxy⟩ := words2 (s := n) (by omega)
    have hcl2 := cutR_mem_len (c := 45) (l := n) (w := x) (by rw [hxy]; exact List.mem_cons_self)
    have hcl3 := cutR_mem_len (c := 45) (l := n) (w := y) (by rw [hxy]; exact List.mem_cons_of_mem _ List.mem_cons_self)
    have hg := ruleOfS_good hw ha hb4 hp (by omega) hxy
    rw [hxy] at hS ⊢
    obtain ⟨bw, rfl⟩ := ownT_some (hS.get 3 rfl) (by simp)
    have hl2 : ([x, y] : List (List UInt8)).length = 2 := rfl
    (conv => whnf)
    refine IdxC.mk (by omega) (by omega) ?_
    (conv => whnf)
    refine Ev.ldc (ownT_cell (j := 0) (hS.get 3 rfl) rfl) ?_
    (conv => whnf)
    refine (numberOf_ok x 5 (by omega) (by omega) _).mono ?_
    rintro v w4 ⟨rfl, hx⟩
    replace hS := hS.no hx
    clear hx
    (conv => whnf)
    refine hS.st 2 rfl (Nat.le_of_ble_eq_true rfl) rfl (fun w' hS => ?_)
    (conv => whnf)
    refine IdxC.mk (by omega) (by omega) ?_
    (conv => whnf)
    refine Ev.ldc (ownT_cell (j := 1) (hS.get 3 rfl) rfl) ?_
    (conv => whnf)
    refine (numberOf_ok y 5 (by omega) (by omega) _).mono ?_
    rintro v w5 ⟨rfl, hx⟩
    replace hS := hS.no hx
    clear hx
    (conv => whnf)
    refine hS.st 2 rfl (Nat.le_of_ble_eq_true rfl) rfl (fun w' hS => ?_)
    generalize hr : (⟨decide (a = sAllow), decide (b4 = sOut), 1, numS x 5, numS y 5⟩ : RuleS) = r at hg
    have hr1 : r.low = numS x 5 := by rw [← hr]
    have hr2 : r.top = numS y 5 := by rw [← hr]
    replace hS : St w No w' [blk b2 77 (encRule noRule), ownL 9 1 encT (.slice (some ⟨b, 0, none⟩) 4 d) [a, b4, p, n], blk b5 77 (encRule r), ownL 9 1 encT (.slice (some ⟨bw, 0, none⟩) 2 d2) [x, y]] := by
      rw [← hr]
      exact hS
    rw [← hr1, ← hr2] at hg
    clear hr1 hr2
    have hne := hS.ne 2 0 rfl rfl (by decide)
    (conv => whnf)
    (refine drawS tabOk mixed [] ((· = b2)) [0, 1, 2, 3, 4, 5, 6, 7, 8, 9, 10] (by kernel_rfl) ?_; rintro w1 rfl; replace hS := hS.drew)
    have hK := hS.ref (· = b2)
    (conv => whnf)
    refine hS.laXF 2 rfl rfl hne ?_
    (conv => whnf)
    refine hS.ldF 2 rfl rfl hne ?_
    (conv => whnf)
    refine brD (fun h11 => ?_) (fun h11 => ?_)
    · (conv => whnf)
      refine hS.ldF 2 rfl rfl hne ?_
      (conv => whnf)
      refine hS.stK hK 0 rfl (Nat.le_of_ble_eq_true rfl) rfl rfl (fun w' hK hS => KeepC.mk hK ?_)
      replace hS : St w No w' [blk b2 77 (encRule r), ownL 9 1 encT (.slice (some ⟨b, 0, none⟩) 4 d) [a, b4, p, n], blk b5 77 (encRule r), ownL 9 1 encT (.slice (some ⟨bw, 0, none⟩) 2 d2) [x, y]] := hS
      (conv => whnf)
      refine hS.laX 0 rfl rfl ?_
      repeat' ((conv => whnf); first | refine RetC.mk ?_ | refine NzC.mk (by decide) ?_ | refine RngC.mk (by omega) (by omega) ?_ | refine IdxC.mk (by omega) (by omega) ?_ | refine brD (fun _ => ?_) (fun _ => ?_) | refine brND (fun _ => ?_) (fun _ => ?_) | refine brN (fun _ => ?_) (fun _ => ?_) | refine brI (fun _ => ?_) (fun _ => ?_))
      refine ⟨⟨r, _, rfl, ?_⟩, hS.ext⟩
      rw [hg]
      by_cases h12 : 0 ≤ r.top
      · rw [if_pos ⟨by omega, h12⟩, if_pos (decide_eq_true (by omega))]
      · rw [if_neg (fun h => h12 h.2), if_neg (fun h => h12 (of_decide_eq_true h))]
    · (conv => whnf)
      refine hS.stK hK 0 rfl (Nat.le_of_ble_eq_true rfl) rfl rfl (fun w' hK hS => KeepC.mk hK ?_)
      replace hS : St w No w' [blk b2 77 (encRule r), ownL 9 1 encT (.slice (some ⟨b, 0, none⟩) 4 d) [a, b4, p, n], blk b5 77 (encRule r), ownL 9 1 encT (.slice (some ⟨bw, 0, none⟩) 2 d2) [x, y]] := hS
      (conv => whnf)
      refine hS.laX 0 rfl rfl ?_
      repeat' ((conv => whnf); first | refine RetC.mk ?_ | refine NzC.mk (by decide) ?_ | refine RngC.mk (by omega) (by omega) ?_ | refine IdxC.mk (by omega) (by omega) ?_ | refine brD (fun _ => ?_) (fun _ => ?_) | refine brND (fun _ => ?_) (fun _ => ?_) | refine brN (fun _ => ?_) (fun _ => ?_) | refine brI (fun _ => ?_) (fun _ => ?_))
      refine ⟨⟨r, _, rfl, ?_⟩, hS.ext⟩
      rw [hg, if_neg (fun h => by omega), if_neg (by simp)]
  (conv => whnf)
  refine eqS2 ?_
  (conv => whnf)
  refine brD (fun h9 => ?_) (fun h9 => ?_)
  · (conv => whnf)
    refine hS.st 2 rfl (Nat.le_of_ble_eq_true rfl) rfl (fun w' hS => ?_)
    have hp : protoK p = 2 := (if_neg h7).trans ((if_neg h8).trans (if_pos h9))
    replace hS : St w No _ [blk b2 77 (encRule noRule), ownL 9 1 encT (.slice (some ⟨b, 0, none⟩) 4 d) [a, b4, p, n], blk b5 77 (encRule ⟨decide (a = sAllow), decide (b4 = sOut), 2, 0, 0⟩)] := hS
    (conv => whnf)
    refine IdxC.mk (by omega) (by omega) ?_
    (conv => whnf)
    refine Ev.ldc (ownT_cell (j := 3) (hS.get 1 rfl) rfl) ?_
    (conv => whnf)
    refine (rcut_ok n 45 (by omega) _).mono ?_
    rintro v w3 ⟨⟨a2, d2, rfl, ho, hf⟩, hx⟩
    replace hS := hS.madeL hx ho hf
    clear hx ho hf
    (conv => whnf)
    refine brND (fun h10 => ?_) (fun h10 => ?_)
    · have hbad := ruleOfS_bad2 hw (by omega)
      (conv => whnf)
      refine hS.st 0 rfl (Nat.le_of_ble_eq_true rfl) rfl (fun w' hS => ?_)
      (conv => whnf)
      refine hS.laX 0 rfl rfl ?_
      repeat' ((conv => whnf); first | refine RetC.mk ?_ | refine NzC.mk (by decide) ?_ | refine RngC.mk (by omega) (by omega) ?_ | refine IdxC.mk (by omega) (by omega) ?_ | refine brD (fun _ => ?_) (fun _ => ?_) | refine brND (fun _ => ?_) (fun _ => ?_) | refine brN (fun _ => ?_) (fun _ => ?_) | refine brI (fun _ => ?_) (fun _ => ?_))
      exact ⟨⟨noRule, false, rfl, hbad⟩, hS.ext⟩
    obtain ⟨x, y, hxy⟩ := words2 (s := n) (by omega)
    have hcl2 := cutR_mem_len (c := 45) (l := n) (w := x) (by rw [hxy]; exact List.mem_cons_self)
    have hcl3 := cutR_mem_len (c := 45) (l := n) (w := y) (by rw [hxy]; exact List.mem_cons_of_mem _ List.mem_cons_self)
    have hg := ruleOfS_good hw ha hb4 hp (by omega) hxy
    rw [hxy] at hS ⊢
    obtain ⟨bw, rfl⟩ := ownT_some (hS.get 3 rfl) (by simp)
    have hl2 : ([x, y] : List (List UInt8)).length = 2 := rfl
    (conv => whnf)
    refine IdxC.mk (by omega) (by omega) ?_
    (conv => whnf)
    refine Ev.ldc (ownT_cell (j := 0) (hS.get 3 rfl) rfl) ?_
    (conv => whnf)
    refine (numberOf_ok x 5 (by omega) (by omega) _).mono ?_
    rintro v w4 ⟨rfl, hx⟩
    replace hS := hS.no hx
    clear hx
    (conv => whnf)
    refine hS.st 2 rfl (Nat.le_of_ble_eq_true rfl) rfl (fun w' hS => ?_)
    (conv => whnf)
    refine IdxC.mk (by omega) (by omega) ?_
    (conv => whnf)
    refine Ev.ldc (ownT_cell (j := 1) (hS.get 3 rfl) rfl) ?_
    (conv => whnf)
    refine (numberOf_ok y 5 (by omega) (by omega) _).mono ?_
    rintro v w5 ⟨rfl, hx⟩
    replace hS := hS.no hx
    clear hx
    (conv => whnf)
    refine hS.st 2 rfl (Nat.le_of_ble_eq_true rfl) rfl (fun w' hS => ?_)
    generalize hr : (⟨decide (a = sAllow), decide (b4 = sOut), 2, numS x 5, numS y 5⟩ : RuleS) = r at hg
    have hr1 : r.low = numS x 5 := by rw [← hr]
    have hr2 : r.top = numS y 5 := by rw [← hr]
    replace hS : St w No w' [blk b2 77 (encRule noRule), ownL 9 1 encT (.slice (some ⟨b, 0, none⟩) 4 d) [a, b4, p, n], blk b5 77 (encRule r), ownL 9 1 encT (.slice (some ⟨bw, 0, none⟩) 2 d2) [x, y]] := by
      rw [← hr]
      exact hS
    rw [← hr1, ← hr2] at hg
    clear hr1 hr2
    have hne := hS.ne 2 0 rfl rfl (by decide)
    (conv => whnf)
    (refine drawS tabOk mixed [] ((· = b2)) [0, 1, 2, 3, 4, 5, 6, 7, 8, 9, 10] (by kernel_rfl) ?_; rintro w1 rfl; replace hS := hS.drew)
    have hK := hS.ref (· = b2)
    (conv => whnf)
    refine hS.laXF 2 rfl rfl hne ?_
    (conv => whnf)
    refine hS.ldF 2 rfl rfl hne ?_
    (conv => whnf)
    refine brD (fun h11 => ?_) (fun h11 => ?_)
    · (conv => whnf)
      refine hS.ldF 2 rfl rfl hne ?_
      (conv => whnf)
      refine hS.stK hK 0 rfl (Nat.le_of_ble_eq_true rfl) rfl rfl (fun w' hK hS => KeepC.mk hK ?_)
      replace hS : St w No w' [blk b2 77 (encRule r), ownL 9 1 encT (.slice (some ⟨b, 0, none⟩) 4 d) [a, b4, p, n], blk b5 77 (encRule r), ownL 9 1 encT (.slice (some ⟨bw, 0, none⟩) 2 d2) [x, y]] := hS
      (conv => whnf)
      refine hS.laX 0 rfl rfl ?_
      repeat' ((conv => whnf); first | refine RetC.mk ?_ | refine NzC.mk (by decide) ?_ | refine RngC.mk (by omega) (by omega) ?_ | refine IdxC.mk (by omega) (by omega) ?_ | refine brD (fun _ => ?_) (fun _ => ?_) | refine brND (fun _ => ?_) (fun _ => ?_) | refine brN (fun _ => ?_) (fun _ => ?_) | refine brI (fun _ => ?_) (fun _ => ?_))
      refine ⟨⟨r, _, rfl, ?_⟩, hS.ext⟩
      rw [hg]
      by_cases h12 : 0 ≤ r.top
      · rw [if_pos ⟨by omega, h12⟩, if_pos (decide_eq_true (by omega))]
      · rw [if_neg (fun h => h12 h.2), if_neg (fun h => h12 (of_decide_eq_true h))]
    · (conv => whnf)
      refine hS.stK hK 0 rfl (Nat.le_of_ble_eq_true rfl) rfl rfl (fun w' hK hS => KeepC.mk hK ?_)
      replace hS : St w No w' [blk b2 77 (encRule r), ownL 9 1 encT (.slice (some ⟨b, 0, none⟩) 4 d) [a, b4, p, n], blk b5 77 (encRule r), ownL 9 1 encT (.slice (some ⟨bw, 0, none⟩) 2 d2) [x, y]] := hS
      (conv => whnf)
      refine hS.laX 0 rfl rfl ?_
      repeat' ((conv => whnf); first | refine RetC.mk ?_ | refine NzC.mk (by decide) ?_ | refine RngC.mk (by omega) (by omega) ?_ | refine IdxC.mk (by omega) (by omega) ?_ | refine brD (fun _ => ?_) (fun _ => ?_) | refine brND (fun _ => ?_) (fun _ => ?_) | refine brN (fun _ => ?_) (fun _ => ?_) | refine brI (fun _ => ?_) (fun _ => ?_))
      refine ⟨⟨r, _, rfl, ?_⟩, hS.ext⟩
      rw [hg, if_neg (fun h => by omega), if_neg (by simp)]
  have g7 : ¬ p = sAny := h7
  have g8 : ¬ p = sUdp := h8
  have g9 : ¬ p = sTcp := h9
  have hbad : ruleOfS s = none := ruleOfS_bad hw (fun h => by
    have h2 := h.2.2
    unfold protoK at h2
    rw [if_neg g7, if_neg g8, if_neg g9] at h2
    exact absurd h2 (by decide))
  (conv => whnf)
  refine hS.st 0 rfl (Nat.le_of_ble_eq_true rfl) rfl (fun w' hS => ?_)
  (conv => whnf)
  refine hS.laX 0 rfl rfl ?_
  repeat' ((conv => whnf); first | refine RetC.mk ?_ | refine NzC.mk (by decide) ?_ | refine RngC.mk (by omega) (by omega) ?_ | refine IdxC.mk (by omega) (by omega) ?_ | refine brD (fun _ => ?_) (fun _ => ?_) | refine brND (fun _ => ?_) (fun _ => ?_) | refine brN (fun _ => ?_) (fun _ => ?_) | refine brI (fun _ => ?_) (fun _ => ?_))
  exact ⟨⟨noRule, false, rfl, hbad⟩, hS.ext⟩
end Go.Proofs.YtcioicoedmmkhaaGreatDoor

namespace Go.Proofs.YtcioicoedmmkhaaGreatDoor
open Go Ev
theorem last_eq {s : List UInt8} {x : UInt8} (hne : s ≠ []) (hx : s[s.length - 1]? = some x) : s.getLast? = some x := by
  rw [List.getLast?_eq_getElem?, hx]
theorem rrulesOf_ok (s : List UInt8) (hl : s.length ≤ 100000) (w : World) :
    CallC Tryz.prog 27 #[.string (bs s)] w fun v w' => (∃ a c, v = .tuple #[.slice a (rulesOfS s).1.length c, .agg (encF (rulesOfS s).2.1 (rulesOfS s).2.2).toArray] ∧ (ownL 77 5 encRule (.slice a (rulesOfS s).1.length c) (rulesOfS s).1).holds w' ∧ Fresh w w' (.slice a (rulesOfS s).1.length c)) ∧ Ext No w w' := by
  have hsz := bs_size s
  refine fn_intro tabOk Tryz.func27 (by kernel_rfl) rfl Tryz.ntmps27 (Nat.le_of_ble_eq_true rfl) ?_
  have hS := St.start w No
  unfold rulesOfS
  (conv => whnf)
  refine hS.new (fun b3 w' hb3 hS => ?_)
  replace hS : St w No w' [blk b3 47 (encF 0 0)] := hS
  (conv => whnf)
  refine brD (fun h1 => ?_) (fun h1 => ?_)
  · rw [if_pos (by omega)]
    repeat' ((conv => whnf); first | refine RetC.mk ?_ | refine NzC.mk (by decide) ?_ | refine RngC.mk (by omega) (by omega) ?_ | refine IdxC.mk (by omega) (by omega) ?_ | refine hS.ld 0 rfl rfl ?_ | refine hS.laX 0 rfl rfl ?_ | (refine (bare_ok 2 _).mono ?_; rintro v w' ⟨rfl, hx'⟩; replace hS := hS.no hx'; clear hx') | refine hS.st 0 rfl (Nat.le_of_ble_eq_true rfl) rfl (fun w' hS => ?_) | refine brD (fun _ => ?_) (fun _ => ?_) | refine brND (fun _ => ?_) (fun _ => ?_) | refine brN (fun _ => ?_) (fun _ => ?_) | refine brI (fun _ => ?_) (fun _ => ?_))
    exact ⟨⟨none, 0, rfl, nilR_holds _, fun g hg => by cases hg⟩, hS.ext⟩
  rw [if_neg (by omega)]
  (conv => whnf)
  refine eqS2 ?_
  (conv => whnf)
  refine brD (fun h2 => ?_) (fun h2 => ?_)
  · rw [if_pos h2]
    repeat' ((conv => whnf); first | refine RetC.mk ?_ | refine NzC.mk (by decide) ?_ | refine RngC.mk (by omega) (by omega) ?_ | refine IdxC.mk (by omega) (by omega) ?_ | refine hS.ld 0 rfl rfl ?_ | refine hS.laX 0 rfl rfl ?_ | (refine (fine_ok _).mono ?_; rintro v w' ⟨rfl, hx'⟩; replace hS := hS.no hx'; clear hx') | refine hS.st 0 rfl (Nat.le_of_ble_eq_true rfl) rfl (fun w' hS => ?_) | refine brD (fun _ => ?_) (fun _ => ?_) | refine brND (fun _ => ?_) (fun _ => ?_) | refine brN (fun _ => ?_) (fun _ => ?_) | refine brI (fun _ => ?_) (fun _ => ?_))
    exact ⟨⟨none, 0, rfl, nilR_holds _, fun g hg => by cases hg⟩, hS.ext⟩
  have h2 : ¬ s = [] := h2
  rw [if_neg h2]
  have hpos := List.length_pos_iff.2 h2
  obtain ⟨x, hx⟩ : ∃ x, s[s.length - 1]? = some x := ⟨_, List.getElem?_eq_getElem (by omega)⟩
  have hlast := last_eq h2 hx
  have htl := trimN_len s
  (conv => whnf)
  refine RngC.mk (by omega) (by omega) ?_
  (conv => whnf)
  refine idxS (j := s.length - 1) Tryz.underlying9 (by omega) hx ?_
  (conv => whnf)
  refine eqC ?_
  have hxc : ((x.toNat : Int) == 10) = decide (x = 10) := by
    rw [Bool.eq_iff_iff, beq_iff_eq, decide_eq_true_iff]
    exact ⟨fun h => UInt8.toNat_inj.1 (by show x.toNat = 10; omega), fun h => by rw [h]; rfl⟩
  rw [hxc]
  generalize hts : cutR 10 (trimN s) = ts
  (conv => whnf)
  refine brD (fun h10 => ?_) (fun h10 => ?_)
  · have hu : s.take (s.length - 1) = trimN s := by
      unfold trimN
      rw [hlast, if_pos (by rw [h10]), List.dropLast_eq_take]
    (conv => whnf)
    refine RngC.mk (by omega) (by omega) ?_
    (conv => whnf)
    refine slcTo Tryz.underlying9 (b := s.length - 1) (by omega) (by omega) hu ?_
    have hul : (trimN s).length ≤ s.length := htl
    (conv => whnf)
    refine (rcut_ok (trimN s) 10 (by omega) _).mono ?_
    rintro v w2 ⟨⟨a0, d, rfl, ho, hf⟩, hx⟩
    replace hS := hS.madeL hx ho hf
    clear hx ho hf
    have hcl := cutR_len 10 (trimN s)
    have hmem : ∀ t ∈ cutR 10 (trimN s), t.length ≤ 100000 := fun t h => by
      have := cutR_mem_len h
      omega
    have hnn := cutR_ne 10 (trimN s)
    rw [hts] at hS hcl hmem hnn ⊢
    obtain ⟨bw, rfl⟩ := ownT_some (hS.get 1 rfl) hnn
    obtain ⟨n, hn⟩ : ∃ n, n = ts.length := ⟨_, rfl⟩
    rw [← hn] at hS ⊢
    have hS := hS.add (ownL_local (e := 77) (enc := encRule) (sz := 5) (v := .slice none 0 0) (xs := [])) (nilR_holds _) (by simp [ownL, own, Value.ownBlock]) (by simp [ownL, own, Value.ownBlock])
    (conv => whnf)
    refine loopR tabOk (fun σ w' q => ∃ (k : Nat) (a : Option Addr) (c : Nat) (rs : List RuleS), σ = [(6, .int .i64 (k : Int)), (5, .slice a k c), (4, .slice (some ⟨bw, 0, none⟩) n d), (3, .pointer (some ⟨b3, 0, none⟩))] ∧ q = n - k ∧ k ≤ n ∧ rs.length = k ∧ rulesOfL ts 0 = (rs ++ (rulesOfL (ts.drop k) k).1, (rulesOfL (ts.drop k) k).2) ∧ St w No w' [blk b3 47 (encF 0 0), ownL 9 1 encT (.slice (some ⟨bw, 0, none⟩) n d) ts, ownL 77 5 encRule (.slice a k c) rs])
      (σ' := [(6, .int .i64 ((0 : Nat) : Int)), (5, .slice none 0 0), (4, .slice (some ⟨bw, 0, none⟩) n d), (3, .pointer (some ⟨b3, 0, none⟩))]) (n := n) ⟨rfl, rfl, rfl, rfl, trivial⟩ ⟨0, none, 0, [], rfl, rfl, Nat.zero_le _, rfl, rfl, hS⟩ ?_
    clear hS
    rintro _ w1 q ⟨k, a, c, rs, rfl, rfl, hk, hrs, hi, hS⟩
    (conv => whnf)
    refine brD (fun h3 => ?_) (fun h3 => ?_)
    · have hkn : k < ts.length := by omega
      have hat := List.getElem?_eq_getElem hkn
      generalize ts[k] = t at hat
      have hst := rulesOfL_step hat
      have htl := hmem t (List.mem_of_getElem? hat)
      (conv => whnf)
      refine IdxC.mk (by omega) (by omega) ?_
      (conv => whnf)
      refine Ev.ldc (ownT_cell (hS.get 1 rfl) hat) ?_
      (conv => whnf)
      refine (rruleOf_ok t htl _).mono ?_
      rintro v w3 ⟨⟨r, kk, rfl, hr⟩, hx⟩
      replace hS := hS.no hx
      clear hx
      (conv => whnf)
      refine hS.new (fun b7 w' hb7 hS => ?_)
      (conv => whnf)
      refine hS.st 3 rfl (Nat.le_of_ble_eq_true rfl) rfl (fun w' hS => ?_)
      replace hS : St w No w' [blk b3 47 (encF 0 0), ownL 9 1 encT (.slice (some ⟨bw, 0, none⟩) n d) ts, ownL 77 5 encRule (.slice a k c) rs, blk b7 77 (encRule r)] := hS
      cases kk with
      | false =>
        rw [if_neg (by simp)] at hr
        rw [hr] at hst
        have e1 : (rulesOfL ts 0).2 = some k := by rw [hi, hst]
        rw [e1]
        (conv => whnf)
        refine hS.st 0 rfl (Nat.le_of_ble_eq_true rfl) rfl (fun w' hS => ?_)
        (conv => whnf)
        refine hS.laX 0 rfl rfl ?_
        repeat' ((conv => whnf); first | refine RetC.mk ?_ | refine NzC.mk (by decide) ?_ | refine RngC.mk (by omega) (by omega) ?_ | refine IdxC.mk (by omega) (by omega) ?_ | refine brD (fun _ => ?_) (fun _ => ?_) | refine brND (fun _ => ?_) (fun _ => ?_) | refine brN (fun _ => ?_) (fun _ => ?_) | refine brI (fun _ => ?_) (fun _ => ?_))
        exact ⟨⟨none, 0, rfl, nilR_holds _, fun g hg => by cases hg⟩, hS.ext⟩
      | true =>
        rw [if_pos rfl] at hr
        rw [hr] at hst
        dsimp only at hst
        (conv => whnf)
        refine hS.laX 3 rfl rfl ?_
        (conv => whnf)
        refine hS.lit (cs := encRule r) Tryz.underlying43 (sz := 5) (by kernel_rfl) (z := .agg (encRule noRule).toArray) (by kernel_rfl) rfl rfl (by rfl) (fun bl w' hbl hS => ?_)
        have hx : Slc w' 5 encRule (fun _ => True) (some ⟨bl, 0, none⟩) 1 [r] := Slc.of_blk codRule (hS.blk 4 rfl) rfl (by decide) (fun _ _ => trivial) rfl
        (conv => whnf)
        refine hS.appS codRule 2 Tryz.underlying43 (bytes := 32) (by kernel_rfl) (z := .agg (encRule noRule).toArray) (by kernel_rfl) rfl rfl hx (by unfold maxLen; omega) (by omega) (fun a2 c2 w' hS => ?_)
        rw [hrs] at hS ⊢
        replace hS : St w No w' [blk b3 47 (encF 0 0), ownL 9 1 encT (.slice (some ⟨bw, 0, none⟩) n d) ts, ownL 77 5 encRule (.slice a2 (k + 1) c2) (rs ++ [r]), blk b7 77 (encRule r), blk bl 77 (encRule r)] := hS
        (conv => whnf)
        refine RngC.mk (by omega) (by omega) ?_
        (conv => whnf)
        refine LoopE.mk ⟨_, [(6, .int .i64 ((k + 1 : Nat) : Int)), (5, _), (4, _), (3, _)], ?_, ⟨rfl, rfl, rfl, rfl, trivial⟩, ⟨k + 1, a2, c2, rs ++ [r], rfl, rfl, by omega, by rw [List.length_append, hrs]; rfl, by rw [hi, hst]; simp, hS.keep 3⟩⟩
        omega
    · obtain rfl : k = n := by omega
      rw [List.drop_of_length_le (by omega)] at hi
      have e1 : rulesOfL ts 0 = (rs, none) := by
        rw [hi]
        simp [rulesOfL]
      rw [e1]
      dsimp only
      have hx := ownL_slc (G := fun _ => True) codRule (hS.get 2 rfl) fun _ _ => trivial
      (conv => whnf)
      refine (rulesFault_ok hx).mono ?_
      rintro v w3 ⟨rfl, hx'⟩
      replace hS := hS.no hx'
      have hcd := fault_code rs
      generalize faultL rs = F at hS hcd ⊢
      obtain ⟨fc, fa⟩ := F
      dsimp only
      (conv => whnf)
      refine hS.new (fun b9 w' hb9 hS => ?_)
      (conv => whnf)
      refine hS.st 3 rfl (Nat.le_of_ble_eq_true rfl) rfl (fun w' hS => ?_)
      replace hS : St w No w' [blk b3 47 (encF 0 0), ownL 9 1 encT (.slice (some ⟨bw, 0, none⟩) k d) ts, ownL 77 5 encRule (.slice a k c) rs, blk b9 47 (encF fc fa)] := hS
      have hne := hS.ne 3 0 rfl rfl (by decide)
      (conv => whnf)
      refine hS.ld 3 rfl rfl ?_
      (conv => whnf)
      refine brD (fun h5 => ?_) (fun h5 => ?_)
      · rw [if_pos (by omega)]
        (conv => whnf)
        (refine drawS tabOk mixed [] ((· = b3)) [0, 1, 2] (by kernel_rfl) ?_; rintro w1 rfl; replace hS := hS.drew)
        have hK := hS.ref (· = b3)
        (conv => whnf)
        refine hS.laXF 3 rfl rfl hne ?_
        (conv => whnf)
        refine hS.stK hK 0 rfl (Nat.le_of_ble_eq_true rfl) rfl rfl (fun w' hK hS => KeepC.mk hK ?_)
        replace hS : St w No w' [blk b3 47 (encF fc fa), ownL 9 1 encT (.slice (some ⟨bw, 0, none⟩) k d) ts, ownL 77 5 encRule (.slice a k c) rs, blk b9 47 (encF fc fa)] := hS
        (conv => whnf)
        refine hS.laX 0 rfl rfl ?_
        repeat' ((conv => whnf); first | refine RetC.mk ?_ | refine NzC.mk (by decide) ?_ | refine RngC.mk (by omega) (by omega) ?_ | refine IdxC.mk (by omega) (by omega) ?_ | refine brD (fun _ => ?_) (fun _ => ?_) | refine brND (fun _ => ?_) (fun _ => ?_) | refine brN (fun _ => ?_) (fun _ => ?_) | refine brI (fun _ => ?_) (fun _ => ?_))
        exact ⟨⟨none, 0, rfl, nilR_holds _, fun g hg => by cases hg⟩, hS.ext⟩
      · obtain rfl : fc = 0 := by omega
        obtain rfl : fa = -1 := by
          dsimp only at hcd
          omega
        rw [if_neg (by omega)]
        (conv => whnf)
        (refine drawS tabOk mixed [] ((· = b3)) [0, 1, 2, 3] (by kernel_rfl) ?_; rintro w1 rfl; replace hS := hS.drew)
        have hK := hS.ref (· = b3)
        (conv => whnf)
        refine hS.laXF 3 rfl rfl hne ?_
        (conv => whnf)
        refine hS.stK hK 0 rfl (Nat.le_of_ble_eq_true rfl) rfl rfl (fun w' hK hS => KeepC.mk hK ?_)
        replace hS : St w No w' [blk b3 47 (encF 0 (-1)), ownL 9 1 encT (.slice (some ⟨bw, 0, none⟩) k d) ts, ownL 77 5 encRule (.slice a k c) rs, blk b9 47 (encF 0 (-1))] := hS
        (conv => whnf)
        refine hS.laX 0 rfl rfl ?_
        repeat' ((conv => whnf); first | refine RetC.mk ?_ | refine NzC.mk (by decide) ?_ | refine RngC.mk (by omega) (by omega) ?_ | refine IdxC.mk (by omega) (by omega) ?_ | refine brD (fun _ => ?_) (fun _ => ?_) | refine brND (fun _ => ?_) (fun _ => ?_) | refine brN (fun _ => ?_) (fun _ => ?_) | refine brI (fun _ => ?_) (fun _ => ?_))
        rw [← hrs]
        exact ⟨⟨a, c, rfl, by rw [hrs]; exact hS.get 2 rfl, by rw [hrs]; exact hS.freshAt 2 rfl⟩, hS.ext⟩
  · have hu : trimN s = s := by
      unfold trimN
      rw [hlast, if_neg (fun e => h10 (Option.some.inj e))]
    rw [hu] at hts
    have hul : (s).length ≤ s.length := Nat.le_refl _
    (conv => whnf)
    refine (rcut_ok (s) 10 (by omega) _).mono ?_
    rintro v w2 ⟨⟨a0, d, rfl, ho, hf⟩, hx⟩
    replace hS := hS.madeL hx ho hf
    clear hx ho hf
    have hcl := cutR_len 10 (s)
    have hmem : ∀ t ∈ cutR 10 (s), t.length ≤ 100000 := fun t h => by
      have := cutR_mem_len h
      omega
    have hnn := cutR_ne 10 (s)
    rw [hts] at hS hcl hmem hnn ⊢
    obtain ⟨bw, rfl⟩ := ownT_some (hS.get 1 rfl) hnn
    obtain ⟨n, hn⟩ : ∃ n, n = ts.length := ⟨_, rfl⟩
    rw [← hn] at hS ⊢
    have hS := hS.add (ownL_local (e := 77) (enc := encRule) (sz := 5) (v := .slice none 0 0) (xs := [])) (nilR_holds _) (by simp [ownL, own, Value.ownBlock]) (by simp [ownL, own, Value.ownBlock])
    (conv => whnf)
    refine loopR tabOk (fun σ w' q => ∃ (k : Nat) (a : Option Addr) (c : Nat) (rs : List RuleS), σ = [(6, .int .i64 (k : Int)), (5, .slice a k c), (4, .slice (some ⟨bw, 0, none⟩) n d), (3, .pointer (some ⟨b3, 0, none⟩))] ∧ q = n - k ∧ k ≤ n ∧ rs.length = k ∧ rulesOfL ts 0 = (rs ++ (rulesOfL (ts.drop k) k).1, (rulesOfL (ts.drop k) k).2) ∧ St w No w' [blk b3 47 (encF 0 0), ownL 9 1 encT (.slice (some ⟨bw, 0, none⟩) n d) ts, ownL 77 5 encRule (.slice a k c) rs])
      (σ' := [(6, .int .i64 ((0 : Nat) : Int)), (5, .slice none 0 0), (4, .slice (some ⟨bw, 0, none⟩) n d), (3, .pointer (some ⟨b3, 0, none⟩))]) (n := n) ⟨rfl, rfl, rfl, rfl, trivial⟩ ⟨0, none, 0, [], rfl, rfl, Nat.zero_le _, rfl, rfl, hS⟩ ?_
    clear hS
    rintro _ w1 q ⟨k, a, c, rs, rfl, rfl, hk, hrs, hi, hS⟩
    (conv => whnf)
    refine brD (fun h3 => ?_) (fun h3 => ?_)
    · have hkn : k < ts.length := by omega
      have hat := List.getElem?_eq_getElem hkn
      generalize ts[k] = t at hat
      have hst := rulesOfL_step hat
      have htl := hmem t (List.mem_of_getElem? hat)
      (conv => whnf)
      refine IdxC.mk (by omega) (by omega) ?_
      (conv => whnf)
      refine Ev.ldc (ownT_cell (hS.get 1 rfl) hat) ?_
      (conv => whnf)
      refine (rruleOf_ok t htl _).mono ?_
      rintro v w3 ⟨⟨r, kk, rfl, hr⟩, hx⟩
      replace hS := hS.no hx
      clear hx
      (conv => whnf)
      refine hS.new (fun b7 w' hb7 hS => ?_)
      (conv => whnf)
      refine hS.st 3 rfl (Nat.le_of_ble_eq_true rfl) rfl (fun w' hS => ?_)
      replace hS : St w No w' [blk b3 47 (encF 0 0), ownL 9 1 encT (.slice (some ⟨bw, 0, none⟩) n d) ts, ownL 77 5 encRule (.slice a k c) rs, blk b7 77 (encRule r)] := hS
      cases kk with
      | false =>
        rw [if_neg (by simp)] at hr
        rw [hr] at hst
        have e1 : (rulesOfL ts 0).2 = some k := by rw [hi, hst]
        rw [e1]
        (conv => whnf)
        refine hS.st 0 rfl (Nat.le_of_ble_eq_true rfl) rfl (fun w' hS => ?_)
        (conv => whnf)
        refine hS.laX 0 rfl rfl ?_
        repeat' ((conv => whnf); first | refine RetC.mk ?_ | refine NzC.mk (by decide) ?_ | refine RngC.mk (by omega) (by omega) ?_ | refine IdxC.mk (by omega) (by omega) ?_ | refine brD (fun _ => ?_) (fun _ => ?_) | refine brND (fun _ => ?_) (fun _ => ?_) | refine brN (fun _ => ?_) (fun _ => ?_) | refine brI (fun _ => ?_) (fun _ => ?_))
        exact ⟨⟨none, 0, rfl, nilR_holds _, fun g hg => by cases hg⟩, hS.ext⟩
      | true =>
        rw [if_pos rfl] at hr
        rw [hr] at hst
        dsimp only at hst
        (conv => whnf)
        refine hS.laX 3 rfl rfl ?_
        (conv => whnf)
        refine hS.lit (cs := encRule r) Tryz.underlying43 (sz := 5) (by kernel_rfl) (z := .agg (encRule noRule).toArray) (by kernel_rfl) rfl rfl (by rfl) (fun bl w' hbl hS => ?_)
        have hx : Slc w' 5 encRule (fun _ => True) (some ⟨bl, 0, none⟩) 1 [r] := Slc.of_blk codRule (hS.blk 4 rfl) rfl (by decide) (fun _ _ => trivial) rfl
        (conv => whnf)
        refine hS.appS codRule 2 Tryz.underlying43 (bytes := 32) (by kernel_rfl) (z := .agg (encRule noRule).toArray) (by kernel_rfl) rfl rfl hx (by unfold maxLen; omega) (by omega) (fun a2 c2 w' hS => ?_)
        rw [hrs] at hS ⊢
        replace hS : St w No w' [blk b3 47 (encF 0 0), ownL 9 1 encT (.slice (some ⟨bw, 0, none⟩) n d) ts, ownL 77 5 encRule (.slice a2 (k + 1) c2) (rs ++ [r]), blk b7 77 (encRule r), blk bl 77 (encRule r)] := hS
        (conv => whnf)
        refine RngC.mk (by omega) (by omega) ?_
        (conv => whnf)
        refine LoopE.mk ⟨_, [(6, .int .i64 ((k + 1 : Nat) : Int)), (5, _), (4, _), (3, _)], ?_, ⟨rfl, rfl, rfl, rfl, trivial⟩, ⟨k + 1, a2, c2, rs ++ [r], rfl, rfl, by omega, by rw [List.length_append, hrs]; rfl, by rw [hi, hst]; simp, hS.keep 3⟩⟩
        omega
    · obtain rfl : k = n := by omega
      rw [List.drop_of_length_le (by omega)] at hi
      have e1 : rulesOfL ts 0 = (rs, none) := by
        rw [hi]
        simp [rulesOfL]
      rw [e1]
      dsimp only
      have hx := ownL_slc (G := fun _ => True) codRule (hS.get 2 rfl) fun _ _ => trivial
      (conv => whnf)
      refine (rulesFault_ok hx).mono ?_
      rintro v w3 ⟨rfl, hx'⟩
      replace hS := hS.no hx'
      have hcd := fault_code rs
      generalize faultL rs = F at hS hcd ⊢
      obtain ⟨fc, fa⟩ := F
      dsimp only
      (conv => whnf)
      refine hS.new (fun b9 w' hb9 hS => ?_)
      (conv => whnf)
      refine hS.st 3 rfl (Nat.le_of_ble_eq_true rfl) rfl (fun w' hS => ?_)
      replace hS : St w No w' [blk b3 47 (encF 0 0), ownL 9 1 encT (.slice (some ⟨bw, 0, none⟩) k d) ts, ownL 77 5 encRule (.slice a k c) rs, blk b9 47 (encF fc fa)] := hS
      have hne := hS.ne 3 0 rfl rfl (by decide)
      (conv => whnf)
      refine hS.ld 3 rfl rfl ?_
      (conv => whnf)
      refine brD (fun h5 => ?_) (fun h5 => ?_)
      · rw [if_pos (by omega)]
        (conv => whnf)
        (refine drawS tabOk mixed [] ((· = b3)) [0, 1, 2] (by kernel_rfl) ?_; rintro w1 rfl; replace hS := hS.drew)
        have hK := hS.ref (· = b3)
        (conv => whnf)
        refine hS.laXF 3 rfl rfl hne ?_
        (conv => whnf)
        refine hS.stK hK 0 rfl (Nat.le_of_ble_eq_true rfl) rfl rfl (fun w' hK hS => KeepC.mk hK ?_)
        replace hS : St w No w' [blk b3 47 (encF fc fa), ownL 9 1 encT (.slice (some ⟨bw, 0, none⟩) k d) ts, ownL 77 5 encRule (.slice a k c) rs, blk b9 47 (encF fc fa)] := hS
        (conv => whnf)
        refine hS.laX 0 rfl rfl ?_
        repeat' ((conv => whnf); first | refine RetC.mk ?_ | refine NzC.mk (by decide) ?_ | refine RngC.mk (by omega) (by omega) ?_ | refine IdxC.mk (by omega) (by omega) ?_ | refine brD (fun _ => ?_) (fun _ => ?_) | refine brND (fun _ => ?_) (fun _ => ?_) | refine brN (fun _ => ?_) (fun _ => ?_) | refine brI (fun _ => ?_) (fun _ => ?_))
        exact ⟨⟨none, 0, rfl, nilR_holds _, fun g hg => by cases hg⟩, hS.ext⟩
      · obtain rfl : fc = 0 := by omega
        obtain rfl : fa = -1 := by
          dsimp only at hcd
          omega
        rw [if_neg (by omega)]
        (conv => whnf)
        (refine drawS tabOk mixed [] ((· = b3)) [0, 1, 2, 3] (by kernel_rfl) ?_; rintro w1 rfl; replace hS := hS.drew)
        have hK := hS.ref (· = b3)
        (conv => whnf)
        refine hS.laXF 3 rfl rfl hne ?_
        (conv => whnf)
        refine hS.stK hK 0 rfl (Nat.le_of_ble_eq_true rfl) rfl rfl (fun w' hK hS => KeepC.mk hK ?_)
        replace hS : St w No w' [blk b3 47 (encF 0 (-1)), ownL 9 1 encT (.slice (some ⟨bw, 0, none⟩) k d) ts, ownL 77 5 encRule (.slice a k c) rs, blk b9 47 (encF 0 (-1))] := hS
        (conv => whnf)
        refine hS.laX 0 rfl rfl ?_
        repeat' ((conv => whnf); first | refine RetC.mk ?_ | refine NzC.mk (by decide) ?_ | refine RngC.mk (by omega) (by omega) ?_ | refine IdxC.mk (by omega) (by omega) ?_ | refine brD (fun _ => ?_) (fun _ => ?_) | refine brND (fun _ => ?_) (fun _ => ?_) | refine brN (fun _ => ?_) (fun _ => ?_) | refine brI (fun _ => ?_) (fun _ => ?_))
        rw [← hrs]
        exact ⟨⟨a, c, rfl, by rw [hrs]; exact hS.get 2 rfl, by rw [hrs]; exact hS.freshAt 2 rfl⟩, hS.ext⟩
end Go.Proofs.YtcioicoedmmkhaaGreatDoor

namespace Go.Proofs.YtcioicoedmmkhaaGreatDoor
open Go Ev
def RuleS.pr (r : RuleS) : List Pr := [.bool r.allow, .bool r.out, .int r.proto, .int r.low, .int r.top]
theorem pr_rule (f g : RuleS) : (f.pr = g.pr) = (f = g) := by
  obtain ⟨a, b, c, d, e⟩ := f
  obtain ⟨a', b', c', d', e'⟩ := g
  simp [RuleS.pr]
theorem neRule {c d : RuleS} {k : Value → Prop} (hk : k (.bool (!decide (c = d)))) :
    PureC Tryz.prog (do eqGuard .neq 77 (.tmp 0) (.tmp 0) (.agg (encRule c).toArray) (.agg (encRule d).toArray); Go.binOp .neq 77 (.agg (encRule c).toArray) (.agg (encRule d).toArray)) k :=
  neS (a := c.pr) (b := d.pr) (ks := [.bool, .bool, .int, .int, .int]) (by kernel_rfl) (by kernel_rfl) (by kernel_rfl) rfl rfl (by simpa only [pr_rule] using hk)
theorem takeR_eq {α : Type} {xs ys : List α} {k : Nat} {x y : α} (hx : xs[k]? = some x) (hy : ys[k]? = some y) (hi : xs.take k = ys.take k) (h : x = y) : xs.take (k + 1) = ys.take (k + 1) := by
  rw [List.take_add_one, List.take_add_one, hi, hx, hy, h]
section
variable {w : World} {G G' : RuleS → Prop} {a b : Option Addr} {n m c d : Nat} {xs ys : List RuleS}
theorem sameRules_ok (hx : Slc w 5 encRule G a n xs) (hy : Slc w 5 encRule G' b m ys) :
    CallC Tryz.prog 26 #[.slice a n c, .slice b m d] w fun v w' => v = .bool (decide (xs = ys)) ∧ Ext No w w' := by
  have hm := hx.max
  have hl := hx.len
  have hl2 := hy.len
  refine fn_intro tabOk Tryz.func26 (by kernel_rfl) rfl Tryz.ntmps26 (Nat.le_of_ble_eq_true rfl) ?_
  have hS := St.start w No
  (conv => whnf)
  refine brND (fun h1 => ?_) (fun h1 => ?_)
  · repeat' ((conv => whnf); first | refine RetC.mk ?_ | refine NzC.mk (by decide) ?_ | refine RngC.mk (by omega) (by omega) ?_ | refine IdxC.mk (by omega) (by omega) ?_ | refine brD (fun _ => ?_) (fun _ => ?_) | refine brND (fun _ => ?_) (fun _ => ?_) | refine brN (fun _ => ?_) (fun _ => ?_) | refine brI (fun _ => ?_) (fun _ => ?_))
    refine ⟨?_, hS.ext⟩
    have : xs ≠ ys := fun e => h1 (by rw [← hl, ← hl2, e])
    simp [this]
  have hnm : n = m := by omega
  subst hnm
  (conv => whnf)
  refine loopR tabOk (fun σ w' q => ∃ k : Nat, σ = [(5, .int .i64 k), (1, .slice b n d), (0, .slice a n c)] ∧ q = n - k ∧ k ≤ n ∧ St w No w' [] ∧ xs.take k = ys.take k)
    (σ' := [(5, .int .i64 ((0 : Nat) : Int)), (1, .slice b n d), (0, .slice a n c)]) (n := n) ⟨rfl, rfl, rfl, trivial⟩ ⟨0, rfl, rfl, Nat.zero_le _, hS, rfl⟩ ?_
  clear hS
  rintro _ w1 q ⟨k, rfl, rfl, hk, hS, hi⟩
  (conv => whnf)
  refine brD (fun h3 => ?_) (fun h3 => ?_)
  · obtain ⟨b0, o0, x, hxk, _, rfl, _, hc⟩ := hx.at (k := k) (by omega)
    obtain ⟨b1, o1, y, hyk, _, rfl, _, hd⟩ := hy.at (k := k) (by omega)
    repeat' ((conv => whnf); first | refine RetC.mk ?_ | refine NzC.mk (by decide) ?_ | refine RngC.mk (by omega) (by omega) ?_ | refine IdxC.mk (by omega) (by omega) ?_ | (refine drawL tabOk mixed [] No [0, 1, 2, 3, 4, 5, 6, 7, 8] rfl (by kernel_rfl) ?_; rintro w1 rfl; replace hS := hS.drew) | refine hS.larF (l := encRule x) rfl hc id id ?_ | refine hS.larF (l := encRule y) rfl hd id id ?_ | refine neRule ?_ | refine brD (fun _ => ?_) (fun _ => ?_) | refine brND (fun _ => ?_) (fun _ => ?_) | refine brN (fun _ => ?_) (fun _ => ?_) | refine brI (fun _ => ?_) (fun _ => ?_))
    · rename_i h4
      refine ⟨?_, hS.ext⟩
      have : xs ≠ ys := fun e => h4 (by subst e; exact Option.some.inj (hxk.symm.trans hyk))
      simp [this]
    · rename_i h4
      refine LoopE.mk ⟨_, [(5, .int .i64 ((k + 1 : Nat) : Int)), (1, _), (0, _)], ?_, ⟨rfl, rfl, rfl, trivial⟩, ⟨k + 1, rfl, rfl, by omega, hS, takeR_eq hxk hyk hi h4⟩⟩
      omega
  · repeat' ((conv => whnf); first | refine RetC.mk ?_ | refine NzC.mk (by decide) ?_ | refine RngC.mk (by omega) (by omega) ?_ | refine IdxC.mk (by omega) (by omega) ?_ | refine brD (fun _ => ?_) (fun _ => ?_) | refine brND (fun _ => ?_) (fun _ => ?_) | refine brN (fun _ => ?_) (fun _ => ?_) | refine brI (fun _ => ?_) (fun _ => ?_))
    have : k = n := by omega
    subst this
    rw [List.take_of_length_le (by omega), List.take_of_length_le (by omega)] at hi
    exact ⟨by simp [hi], hS.ext⟩
end
end Go.Proofs.YtcioicoedmmkhaaGreatDoor

namespace Go.Proofs.YtcioicoedmmkhaaGreatDoor
open Go Ev

def RuleS.I (r : RuleS) : Prop := I64 r.proto ∧ I64 r.low ∧ I64 r.top
def PktS.I (p : PktS) : Prop := I64 p.proto ∧ I64 p.sa ∧ I64 p.sp ∧ I64 p.da ∧ I64 p.dp ∧ I64 p.flags
end Go.Proofs.YtcioicoedmmkhaaGreatDoor

namespace Go.Proofs.YtcioicoedmmkhaaGreatDoor.Ev
open Go Go.ChangeShapes Go.WideShapes Go.ChangeAt Go.RowKit

theorem laidMetH_layVars {P : Program} {w0 w' : World} {L : List (String × DataW Unit)} {fuel : Nat}
    (hh : w'.heap = (w0.layVars P (L.filter fun x => x.2.handleName?.isNone)).heap)
    (hf : w0.layFits P (L.filter fun x => x.2.handleName?.isNone) [] = true)
    (hi : w0.layIfaces P (L.filter fun x => x.2.handleName?.isNone) w' = true)
    (hH : (L.filter fun x => x.2.handleName?.isSome && x.2.funcsIn?.isNone).all (handleAtB P w') = true)
    (hF : funcsRun P w' fuel ((funcsListed L).map (·.1)) = some ((funcsListed L).map (·.2.funcsOut))) : laidMetH P L w' := by
  refine laidMetH_of_parts3 (fuel := fuel) ?_ hH hF
  generalize (L.filter fun x => x.2.handleName?.isNone) = laid at hh hf hi ⊢
  have e1 : (laid.filter fun x => (laid.map (·.1)).contains x.1) = laid := List.filter_eq_self.2 fun x hx => List.contains_iff_mem.2 (List.mem_map.2 ⟨x, hx, rfl⟩)
  have e2 : (laid.filter fun x => !(laid.map (·.1)).contains x.1) = [] := List.filter_eq_nil_iff.2 fun x hx => by rw [List.contains_iff_mem.2 (List.mem_map.2 ⟨x, hx, rfl⟩)]; simp
  exact laidMet_layVars (w0 := w0) (laid.map (·.1)) [] (by rw [e1]; exact hh) (by rw [e1]; exact hf) (by rw [e1]; exact hi) (by rw [e2]; exact LaidIn.none)
theorem law_liftedS {C : Checked} {f : FuncId} {fn : Func} {s : ChangeSpec} {tb : TypeId} (L : List (String × DataW Unit)) (os : Os) (started : os.Started) (H : Type) (enc : TypeId × Value → H)
    (own : ownKnob C.prog.godebug = none) (hbody : fn.body.isNone = false) (noInit : C.prog.inits.idxOf? f = none) (hfn : C.prog.funcs[f]? = some fn) (hvars : s.vars = [])
    (hs : ∀ ds : List (DataW H), ds.length = fn.params.toList.length → (s.fn H (ds ++ [])).results = [.lit (.bool true)] ∧ (s.fn H (ds ++ [])).args = ds ∧ (s.fn H (ds ++ [])).vars = [])
    (hres : fn.resultTypes = #[tb]) (hbool : C.prog.underlying tb = some .bool) (hlaid : laidOutB C.prog = true) (hread : (fn.params.toList.all fun t => C.prog.readableRec t && decide (t < C.prog.types.size)) = true)
    (witness : ∃ (w : World) (tape : Tape) (i : Input), w.os = os ∧ (w.forCall tape i).Shaped C.prog ∧ i.vars = [] ∧ Input.okWide C.prog (w.forCall tape i) .any w.heap.size f i ∧
      ((s.pre enc C.prog fn [] false (w.forCall tape i).memory i.args ∧ laidMetH C.prog L (w.forCall tape i).memory) ∧ sizedMet enc C.prog fn (OpenSpec.ofChange s) false (w.forCall tape i).memory i.args) ∧ ({} : Assume).holds C.prog (lone (Frame.enter C.prog f i.args .normal) [] (w.forCall tape i)))
    (walk : ∀ (W : World) (args : List Value), W.ShapedOpen C.prog → ArgsOk C.prog W fn.params.toList args → laidMetH C.prog L W → CallC C.prog f args.toArray W fun v w' => v = .bool true ∧ Ext No W w') :
    ReturnsInHanded {} C os f .any (fun w args => (s.pre enc C.prog fn [] false w args ∧ laidMetH C.prog L w) ∧ sizedMet enc C.prog fn (OpenSpec.ofChange s) false w args) (s.post enc C.prog fn false true false false) := by
  refine returnsInHanded_of_calls own started noInit witness ?_
  intro w tape i _ hsh _ hok hpre _
  obtain ⟨_, _, _, fn', hfn', _, _, _, _, hval⟩ := hok
  obtain rfl : fn' = fn := Option.some.inj (hfn'.symm.trans hfn)
  obtain ⟨⟨⟨ds, gs, before, hw, _⟩, hx⟩, _⟩ := hpre
  have hW := DataW.Whole.of_heap (w' := w.forCall tape i) (by rfl) hw
  have hL : laidMetH C.prog L (w.forCall tape i) := hx.of_heap (by rfl)
  generalize w.forCall tape i = W at hval hW hL hsh ⊢
  generalize w.heap.size = base at hval
  generalize i.args = args at hval hW ⊢
  have goal : Calls C.prog f args W fun e W' => ∃ v, e = .returned v ∧ s.post enc C.prog fn' false true false false W args v W' := by
    have hW' := hW
    obtain ⟨p, q, hA, hV, rfl, hfz, hnd⟩ := hW
    rw [hvars] at hV
    obtain ⟨rfl, rfl⟩ := trodVars_none hV
    have hok := argsOk_of fn'.params.toList args.toList ds p (fun j t v ht hv => hval j t v (by simpa using ht) (by simpa using hv)) hA
    have hlen : ds.length = fn'.params.toList.length := by
      have : ∀ (ts : List TypeId) (vs : List Value) (ds : List (DataW H)) (ps : List MemPlace), DataW.TrodAll enc C.prog W 0 (fun _ => true) true ts vs ds ps → ds.length = ts.length := by
        intro ts
        induction ts with
        | nil => intro vs ds ps h; cases vs <;> cases ds <;> simp_all [DataW.TrodAll]
        | cons t ts ih =>
          intro vs ds ps h
          obtain ⟨v, vs', d, ds', p, q, rfl, rfl, rfl, h1, h2⟩ := trodAll_cons h
          simp [ih _ _ _ h2]
      exact this _ _ _ _ hA
    have hc := (walk W args.toList hsh hok hL).calls hfn hbody
    rw [Array.toArray_toList] at hc
    refine hc.mono fun e W' ⟨v, he, hv, hext⟩ => ?_
    subst he hv
    obtain ⟨e1, e2, e3⟩ := hs ds hlen
    have hlt : ∀ x ∈ p, x.block < W.heap.size := fun x hx => hW'.lt x (by simpa using hx)
    refine ⟨_, rfl, ds, [], p ++ [], [], p, [], hW', ?_, ?_, ?_, hext.below.frame _, fun h => by cases h⟩
    · rw [e1, hres]
      exact trodAll_mk1 (shut_bool hbool true)
    · rw [e2]
      exact trodAll_ext hlaid hext.below _ _ _ _ hread hA hlt
    · rw [hvars, e3]
      rfl
  refine goal.mono fun e W' ⟨v, he, hp⟩ => ?_
  subst he
  exact ChangeSpec.post_blind hp
end Go.Proofs.YtcioicoedmmkhaaGreatDoor.Ev
namespace Go.Proofs.YtcioicoedmmkhaaGreatDoor
open Go Ev Go.RowKit
theorem maxL_of {W : World} (h : W.ShapedOpen Tryz.prog) : MaxL W :=
  cell_of_shapedOpen_int (g := 14) (t := 3) (zero := #[.int .i64 0]) h (of_decide_eq_true (by kernel_rfl)) (by kernel_rfl) rfl (by kernel_rfl) (by kernel_rfl) Tryz.underlying3
theorem sent_of {n : String} {text : List UInt8} {L : List (String × DataW Unit)} {W : World} {g : Nat} (hl : laidMetH Tryz.prog L W) (hm : (n, .iface "*errors.errorString" (.ptr (.agg [.lit (.string text)]))) ∈ L)
    (hg : Tryz.prog.globalNamed n = some g) (ht : (Tryz.prog.globals[g]?).map (·.type) = some 28) : ∃ e, W.cell? ⟨g, 0, none⟩ = some e ∧ (e = .nilIface ∨ ∃ t p, e = .iface t p) := by
  obtain ⟨f, hf⟩ : ∃ f : Field, Tryz.prog.underlying 184 = some (.struct #[f]) ∧ f.type = 9 ∧ f.offset = 0 := ⟨_, Tryz.underlying184, rfl, rfl⟩
  obtain ⟨a, h1, _⟩ := sentinel1 (laid_one hl hm rfl) hg ht Tryz.underlying28 errStr_only Tryz.underlying182 hf.1 hf.2.1 hf.2.2 Tryz.underlying9 (by kernel_rfl) (by kernel_rfl)
  exact ⟨_, h1, .inr ⟨_, _, rfl⟩⟩
def synB : List UInt8 := [105, 110, 118, 97, 108, 105, 100, 32, 115, 121, 110, 116, 97, 120]
def rngB : List UInt8 := [118, 97, 108, 117, 101, 32, 111, 117, 116, 32, 111, 102, 32, 114, 97, 110, 103, 101]
theorem numV_of {L : List (String × DataW Unit)} {W : World} (hl : laidMetH Tryz.prog L W) (h1 : ("strconv.ErrSyntax", .iface "*errors.errorString" (.ptr (.agg [.lit (.string synB)]))) ∈ L) (h2 : ("strconv.ErrRange", .iface "*errors.errorString" (.ptr (.agg [.lit (.string rngB)]))) ∈ L) : NumV W :=
  ⟨sent_of hl h1 (by kernel_rfl) (by kernel_rfl), sent_of hl h2 (by kernel_rfl) (by kernel_rfl)⟩
end Go.Proofs.YtcioicoedmmkhaaGreatDoor

namespace Go.Proofs.YtcioicoedmmkhaaGreatDoor
open Go Ev

theorem fault_small (l : List RuleS) : (faultL l).1 < 12 ∧ ((faultL l).1 = 0 → (faultL l).2 = -1) := by
  rcases fault_code l with ⟨h1, h2⟩ | ⟨h1, h2⟩ | ⟨h1, h2⟩ <;> omega
theorem rulesOfS_small (s : List UInt8) : (rulesOfS s).2.1 < 12 ∧ ((rulesOfS s).2.1 = 0 → (rulesOfS s).2.2 = -1) := by
  unfold rulesOfS
  split
  · exact ⟨by dsimp only; omega, fun h => rfl⟩
  split
  · exact ⟨by dsimp only; omega, fun h => rfl⟩
  split
  · exact ⟨by dsimp only; omega, fun h => absurd h (by dsimp only; omega)⟩
  split
  · exact fault_small _
  · exact ⟨by dsimp only; omega, fun h => rfl⟩
theorem policyReads_ok {E : Nat → Addr} (W : World) (hE : Errs W E W.heap.size allErrs) (hh : Handle W) (ht : Pow10 W) (hP : Protos W) (hM : MaxL W) (hV : NumV W) (s : List UInt8) :
    CallC Tryz.prog 6 #[.string (bs s)] W fun v w' => v = .bool true ∧ Ext No W w' := by
  have hsz := bs_size s
  refine fn_intro tabOk Tryz.func6 (by kernel_rfl) rfl Tryz.ntmps6 (Nat.le_of_ble_eq_true rfl) ?_
  have hS := St.start W No
  (conv => whnf)
  refine (ruled_ok _ ((hE.sub rfl).ext hS.ext fun _ h => h.elim) (ht.no hS.ext) (hP.no hS.ext)).mono ?_
  rintro v w1 ⟨rfl, hx0⟩
  replace hS := hS.no hx0
  (conv => whnf)
  refine brD (fun h1 => ?_) (fun h1 => ?_)
  · repeat' ((conv => whnf); first | refine RetC.mk ?_ | refine NzC.mk (by decide) ?_ | refine RngC.mk (by omega) (by omega) ?_ | refine IdxC.mk (by omega) (by omega) ?_ | refine brD (fun _ => ?_) (fun _ => ?_) | refine brND (fun _ => ?_) (fun _ => ?_) | refine brN (fun _ => ?_) (fun _ => ?_) | refine brI (fun _ => ?_) (fun _ => ?_))
    exact ⟨rfl, hS.ext⟩
  (conv => whnf)
  refine (preads_ok s _ (by omega) (hM.no hx0) (hV.no hx0) (ht.no hx0) (hP.no hx0) ((hE.sub rfl).ext hx0 fun _ h => h.elim)).mono ?_
  rintro v w2 ⟨⟨a, c, e, rfl, hf, ho, _⟩, hx⟩
  have hz := ownL_slc (G := fun _ => True) codRule ho fun _ _ => trivial
  replace hx0 := hx0.trans hx
  clear ho hx hS
  have hS := St.start w2 No
  (conv => whnf)
  refine (rrulesOf_ok s (by omega) _).mono ?_
  rintro v w3 ⟨⟨a2, c2, rfl, ho, _⟩, hx⟩
  have hy := ownL_slc (G := fun _ => True) codRule ho fun _ _ => trivial
  replace hz := hz.no hx
  replace hf := hf.no hx
  replace hx0 := hx0.trans hx
  clear ho hx hS
  have hS := St.start w3 No
  obtain ⟨g1, g2⟩ := rulesOfS_small s
  generalize rulesOfS s = R at hz hy hf g1 g2 ⊢
  obtain ⟨rs, fc, fa⟩ := R
  dsimp only at hz hy hf g1 g2 ⊢
  (conv => whnf)
  refine hS.new (fun b7 w' hb7 hS => ?_)
  (conv => whnf)
  refine hS.st 0 rfl (Nat.le_of_ble_eq_true rfl) rfl (fun w' hS => ?_)
  replace hS : St w3 No w' [blk b7 47 (encF fc fa)] := hS
  (conv => whnf)
  refine hS.laX 0 rfl rfl ?_
  (conv => whnf)
  refine (faulted1_ok (hf.no hS.ext) g2 g1 ((hE.ext hx0 fun _ h => h.elim).ext hS.ext fun _ h => h.elim) ((hh.ext hx0).ext hS.ext)).mono ?_
  rintro v w4 ⟨rfl, hx⟩
  replace hS := hS.no hx
  clear hx
  (conv => whnf)
  refine (sameRules_ok (hz.no hS.ext) (hy.no hS.ext)).mono ?_
  rintro v w5 ⟨rfl, hx⟩
  replace hS := hS.no hx
  repeat' ((conv => whnf); first | refine RetC.mk ?_ | refine NzC.mk (by decide) ?_ | refine RngC.mk (by omega) (by omega) ?_ | refine IdxC.mk (by omega) (by omega) ?_ | refine brD (fun _ => ?_) (fun _ => ?_) | refine brND (fun _ => ?_) (fun _ => ?_) | refine brN (fun _ => ?_) (fun _ => ?_) | refine brI (fun _ => ?_) (fun _ => ?_))
  exact ⟨by simp, hx0.trans hS.ext⟩
theorem policyReads_walk {E : Nat → Addr} (W : World) (args : List Value) (hE : Errs W E W.heap.size allErrs) (hh : Handle W) (ht : Pow10 W) (hP : Protos W) (hM : MaxL W) (hV : NumV W) (ha : ArgsOk Tryz.prog W [9] args) :
    CallC Tryz.prog 6 args.toArray W fun v w' => v = .bool true ∧ Ext No W w' := by
  obtain ⟨v0, args, rfl, h0, ha⟩ := ha.cons
  obtain rfl := ha.nil
  obtain ⟨s, rfl⟩ := arg_str Tryz.underlying9 h0
  obtain ⟨l, rfl⟩ := bs_of s
  exact policyReads_ok W hE hh ht hP hM hV l
end Go.Proofs.YtcioicoedmmkhaaGreatDoor
