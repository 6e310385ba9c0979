/-
  Texts of this claim, joined: PoolZT, PoolZU, Leave.
-/
import Derived.Test.YtgcbcagaibecbaaGreatDoorSideReadsI
import Derived.Leaving
import Derived.Conc.Holds
import Derived.SevenTiedAt
set_option linter.unusedSectionVars false
set_option linter.unusedSimpArgs false
set_option linter.unusedVariables false

namespace Go.Proofs.YtgcbcagaibecbaaGreatDoor.Pool
set_option maxRecDepth 20000
open Go Go.Conc Gap Ev Go.RowKit Go.Conc.Lib
local instance : Gap.Leaps := onLeaps

def lenS (ls : List (List UInt8)) : Nat := (ls.map List.length).sum
theorem lenS_app (l m : List (List UInt8)) : lenS (l ++ m) = lenS l + lenS m := by simp [lenS]
theorem lenS_mem : ∀ {l : List (List UInt8)} {s : List UInt8}, s ∈ l → s.length ≤ lenS l
  | x :: l, s, h => by
    rcases List.mem_cons.1 h with rfl | h
    · simp [lenS]
    · have := lenS_mem h
      simp only [lenS, List.map_cons, List.sum_cons] at this ⊢
      omega
section
variable {w : World} {E : Nat → Addr} {q n c : Nat} {a : Option Addr} {G : List UInt8 → Prop} {ls : List (List UInt8)}
set_option maxHeartbeats 1000000 in
theorem sideReads_ok (hx : Slc w 1 encT G a n ls) (hst : ∀ s ∈ ls, s.length ≤ 140737488351232) (hV : NumV w) (ht : Pow10 w) (hP : Protos w) (hE : Errs w E q allErrs) (hh : Handle w) (wk : Int) :
    BodyG Tryz.prog 3 #[.slice a n c, .int .i64 wk] w fun v w' => v = .bool true ∧ Ext No w w' := by
  have hm := hx.max
  have hl := hx.len
  refine fn_body tabOk Tryz.func3 rfl Tryz.ntmps3 (Nat.le_of_ble_eq_true rfl) ?_
  have hS := St.start w No
  (conv => whnf)
  refine (abreast_ok hV ht hP (hE.sub rfl) hh).mono ?_
  rintro v w1 ⟨rfl, hx1⟩
  replace hS := hS.no hx1
  clear hx1
  (conv => whnf)
  refine brD (fun h110 => ?_) (fun h110 => ?_)
  · repeat' ((conv => whnf); first | refine RetC.mk ?_ | refine NzC.mk (by decide) ?_ | refine RngC.mk (by omega) (by omega) ?_ | refine IdxC.mk (by omega) (by omega) ?_ | refine brD (fun _ => ?_) (fun _ => ?_) | refine brND (fun _ => ?_) (fun _ => ?_) | refine brN (fun _ => ?_) (fun _ => ?_) | refine brI (fun _ => ?_) (fun _ => ?_))
    exact ⟨rfl, hS.ext⟩
  have hS := hS.add (ownL_local (e := 9) (enc := encT) (sz := 1) (v := .slice none 0 0) (xs := [])) (own_nil _ _ _) (by simp [ownL, own, Value.ownBlock]) (by simp [ownL, own, Value.ownBlock])
  (conv => whnf)
  refine loopR tabOk (fun σ w' q => ∃ (k : Nat) (a1 : Option Addr) (c1 : Nat), σ = [(8, .int .i64 (k : Int)), (7, .slice a1 k c1), (6, .int .i64 ((lenS (ls.take k) : Nat) : Int)), (1, .int .i64 wk), (0, .slice a n c)] ∧ q = n - k ∧ k ≤ n ∧ lenS (ls.take k) ≤ 4000 ∧ St w No w' [ownL 9 1 encT (.slice a1 k c1) (ls.take k)])
    (σ' := [(8, .int .i64 ((0 : Nat) : Int)), (7, .slice none 0 0), (6, .int .i64 ((0 : Nat) : Int)), (1, .int .i64 wk), (0, .slice a n c)]) (n := n) ⟨rfl, rfl, rfl, rfl, rfl, trivial⟩ ⟨0, none, 0, rfl, rfl, Nat.zero_le _, by simp [lenS], hS⟩ ?_
  clear hS
  rintro _ w1 q1 ⟨k, a1, c1, rfl, rfl, hk, hsum, hS⟩
  (conv => whnf)
  refine brD (fun h3 => ?_) (fun h3 => ?_)
  · obtain ⟨b0, o0, s, hsk, _, rfl, _, hc⟩ := hx.at (k := k) (by omega)
    have hsz := bs_size s
    have hs2 := hst s (List.mem_of_getElem? hsk)
    have htk : ls.take (k + 1) = ls.take k ++ [s] := by rw [List.take_add_one, hsk]; rfl
    have hls : lenS (ls.take (k + 1)) = lenS (ls.take k) + s.length := by rw [htk, lenS_app]; simp [lenS]
    (conv => whnf)
    refine IdxC.mk (by omega) (by omega) ?_
    (conv => whnf)
    refine hS.ldr (hc 0 _ rfl) id ?_
    (conv => whnf)
    refine RngC.mk (by omega) (by omega) ?_
    (conv => whnf)
    refine brD (fun h4 => ?_) (fun h4 => ?_)
    · repeat' ((conv => whnf); first | refine RetC.mk ?_ | refine NzC.mk (by decide) ?_ | refine RngC.mk (by omega) (by omega) ?_ | refine IdxC.mk (by omega) (by omega) ?_ | refine brD (fun _ => ?_) (fun _ => ?_) | refine brND (fun _ => ?_) (fun _ => ?_) | refine brN (fun _ => ?_) (fun _ => ?_) | refine brI (fun _ => ?_) (fun _ => ?_))
      exact ⟨rfl, hS.ext⟩
    (conv => whnf)
    refine IdxC.mk (by omega) (by omega) ?_
    (conv => whnf)
    refine hS.ldr (hc 0 _ rfl) id ?_
    (conv => whnf)
    refine hS.lit (cs := [.string (bs s)]) Tryz.underlying22 (sz := 1) (by kernel_rfl) (z := .string (bs [])) (by kernel_rfl) rfl rfl (by rfl) (fun bl w2 hbl hS => ?_)
    have hx2 : Slc w2 1 encT (fun _ => True) (some ⟨bl, 0, none⟩) 1 [s] := Slc.of_blk codT (hS.blk 1 rfl) rfl (by decide) (fun _ _ => trivial) rfl
    have hlk : (ls.take k).length = k := by rw [List.length_take]; omega
    (conv => whnf)
    refine hS.appS codT 0 Tryz.underlying22 (bytes := 16) (by kernel_rfl) (z := .string (bs [])) (by kernel_rfl) rfl rfl hx2 (by rw [hlk]; unfold maxLen; omega) (by rw [hlk]; omega) (fun a2 c2 w3 hS => ?_)
    rw [hlk] at hS ⊢
    replace hS : St w No w3 [ownL 9 1 encT (.slice a2 (k + 1) c2) (ls.take k ++ [s]), blk bl 9 [.string (bs s)]] := hS
    rw [← htk] at hS
    (conv => whnf)
    refine RngC.mk (by omega) (by omega) ?_
    (conv => whnf)
    refine LoopE.mk ⟨_, [(8, .int .i64 ((k + 1 : Nat) : Int)), (7, _), (6, .int .i64 ((lenS (ls.take (k + 1)) : Nat) : Int)), (1, _), (0, _)], ?_, ⟨rfl, rfl, ?_, rfl, rfl, trivial⟩, ⟨k + 1, a2, c2, rfl, rfl, by omega, by omega, hS.keep 1⟩⟩
    · omega
    · show some (Value.int .i64 (((lenS (ls.take k) : Nat) : Int) + (((bs s).size : Nat) : Int))) = some (Value.int .i64 ((lenS (ls.take (k + 1)) : Nat) : Int))
      rw [hls, hsz]
      rfl
  have hkn : k = n := by omega
  subst hkn
  rw [List.take_of_length_le (by omega)] at hsum hS
  have hlen : ∀ s ∈ ls, s.length ≤ 100000 := fun s hs => by
    have := lenS_mem hs
    omega
  have hx0 := hS.ext
  have hown : Slc w1 1 encT (fun _ => True) a1 k ls := ownL_slc codT (hS.get 0 rfl) fun _ _ => trivial
  clear hS hst hsum
  (conv => whnf)
  refine (reads_ok (c := c1) hown hlen (hV.no hx0) (ht.no hx0) (hP.no hx0) ((hE.sub rfl).ext hx0 fun _ h => h.elim) (hh.ext hx0) wk).mono ?_
  rintro v w2 ⟨⟨ov, ev, rfl, hf, hne, heq⟩, hx2⟩
  replace hx0 := hx0.trans hx2
  clear hx2 hown
  have hS := St.start w2 No
  (conv => whnf)
  refine (workersFault_ok wk k _).mono ?_
  rintro v w3 ⟨rfl, hx3⟩
  replace hS := hS.no hx3
  clear hx3
  (conv => whnf)
  refine hS.new (fun b11 w' hb11 hS => ?_)
  (conv => whnf)
  refine hS.st 0 rfl (Nat.le_of_ble_eq_true rfl) rfl (fun w' hS => ?_)
  replace hS : St w2 No w' [blk b11 30 (encF (rightC wk k) (-1))] := hS
  obtain ⟨n, hkn⟩ : ∃ n, n = k := ⟨k, rfl⟩
  subst hkn
  generalize hR : readsC ls wk = R at hf hne heq
  have hRs := readsC_small ls wk
  have hRz := readsC_zero (ls := ls) (k := wk)
  rw [hR] at hRs hRz
  obtain ⟨fc, fa⟩ := R
  dsimp only at hf hne heq hRs hRz
  have hx2 := hx.no hx0
  have hini : (rightC wk n = 0 ∧ readsC ls wk = firstF (ls.drop 0) 0) ∨ (rightC wk n ≠ 0 ∧ readsC ls wk = (rightC wk n, -1)) := by
    unfold readsC
    rw [hl]
    by_cases h : rightC wk n = 0
    · rw [if_pos h]
      exact .inl ⟨h, rfl⟩
    · rw [if_neg h]
      exact .inr ⟨h, rfl⟩
  rw [hR] at hini
  (conv => whnf)
  refine loopR tabOk (fun σ w' q => ∃ (i fc' : Nat) (fa' : Int), σ = [(12, .int .i64 (i : Int)), (11, .pointer (some ⟨b11, 0, none⟩)), (10, ev), (9, ov), (0, .slice a n c)] ∧ q = n - i ∧ i ≤ n ∧ ((fc' = 0 ∧ fa' = -1 ∧ (fc, fa) = firstF (ls.drop i) i) ∨ (fc' ≠ 0 ∧ (fc, fa) = (fc', fa'))) ∧ St w2 No w' [blk b11 30 (encF fc' fa')])
    (σ' := [(12, .int .i64 ((0 : Nat) : Int)), (11, .pointer (some ⟨b11, 0, none⟩)), (10, ev), (9, ov), (0, .slice a n c)]) (n := n) ⟨rfl, rfl, rfl, rfl, rfl, trivial⟩ ⟨0, rightC wk n, -1, rfl, rfl, Nat.zero_le _, ?_, hS⟩ ?_
  · rcases hini with ⟨h1, h2⟩ | ⟨h1, h2⟩
    · exact .inl ⟨h1, rfl, h2⟩
    · exact .inr ⟨h1, h2⟩
  clear hS hini
  rintro _ w1 q1 ⟨i, fc', fa', rfl, rfl, hi, hinv, hS⟩
  (conv => whnf)
  refine brD (fun h5 => ?_) (fun h5 => ?_)
  · (conv => whnf)
    refine hS.ld 0 rfl rfl ?_
    rcases hinv with ⟨rfl, rfl, hi2⟩ | ⟨hc0, hR2⟩
    · obtain ⟨b0, o0, s, hsk, _, rfl, _, hc⟩ := hx2.at (k := i) (by omega)
      have hst := firstF_step hsk
      have hls := hlen s (List.mem_of_getElem? hsk)
      (conv => whnf)
      refine IdxC.mk (by omega) (by omega) ?_
      (conv => whnf)
      refine hS.ldr (hc 0 _ rfl) id ?_
      (conv => whnf)
      refine (rrulesOf_ok s hls _).mono ?_
      rintro v w4 ⟨⟨a4, c4, rfl, _, _⟩, hx4⟩
      replace hS := hS.no hx4
      clear hx4
      (conv => whnf)
      refine hS.new (fun b14 w' hb14 hS => ?_)
      (conv => whnf)
      refine hS.st 1 rfl (Nat.le_of_ble_eq_true rfl) rfl (fun w' hS => ?_)
      replace hS : St w2 No w' [blk b11 30 (encF 0 (-1)), blk b14 30 (encF (rulesOfS s).2.1 (rulesOfS s).2.2)] := hS
      (conv => whnf)
      refine hS.ld 1 rfl rfl ?_
      (conv => whnf)
      refine brD (fun h6 => ?_) (fun h6 => ?_)
      · rw [if_neg (by omega)] at hst
        (conv => whnf)
        refine hS.ld 1 rfl rfl ?_
        (conv => whnf)
        refine hS.st 0 rfl (Nat.le_of_ble_eq_true rfl) rfl (fun w' hS => ?_)
        replace hS : St w2 No w' [blk b11 30 (encF (rulesOfS s).2.1 i), blk b14 30 (encF (rulesOfS s).2.1 (rulesOfS s).2.2)] := hS
        (conv => whnf)
        refine RngC.mk (by omega) (by omega) ?_
        (conv => whnf)
        refine LoopE.mk ⟨_, [(12, .int .i64 ((i + 1 : Nat) : Int)), (11, _), (10, _), (9, _), (0, _)], ?_, ⟨rfl, rfl, rfl, rfl, rfl, trivial⟩, ⟨i + 1, _, _, rfl, rfl, by omega, .inr ⟨?_, ?_⟩, hS.keep 1⟩⟩
        · omega
        · omega
        · rw [hi2, hst]
      · rw [if_pos (by omega)] at hst
        (conv => whnf)
        refine RngC.mk (by omega) (by omega) ?_
        (conv => whnf)
        refine LoopE.mk ⟨_, [(12, .int .i64 ((i + 1 : Nat) : Int)), (11, _), (10, _), (9, _), (0, _)], ?_, ⟨rfl, rfl, rfl, rfl, rfl, trivial⟩, ⟨i + 1, 0, -1, rfl, rfl, by omega, .inl ⟨rfl, rfl, ?_⟩, hS.keep 1⟩⟩
        · omega
        · rw [hi2, hst]
    · (conv => whnf)
      rw [show (((fc' : Nat) : Int) == 0) = false by simp only [beq_eq_false_iff_ne, ne_eq]; omega]
      obtain ⟨e1, e2⟩ := Prod.mk.inj hR2
      subst e1 e2
      (conv => whnf)
      refine hS.ld 0 rfl rfl ?_
      (conv => whnf)
      refine brD (fun h7 => ?_) (fun h7 => ?_)
      · obtain rfl := hne (by omega)
        (conv => whnf)
        refine hS.laX 0 rfl rfl ?_
        (conv => whnf)
        refine (faulted3_ok (hf.no hS.ext) hRs.2 hRs.1 ((hE.ext hx0 fun _ h => h.elim).ext hS.ext fun _ h => h.elim) ((hh.ext hx0).ext hS.ext)).mono ?_
        rintro v w9 ⟨rfl, hx9⟩
        replace hS := hS.no hx9
        repeat' ((conv => whnf); first | refine RetC.mk ?_ | refine NzC.mk (by decide) ?_ | refine RngC.mk (by omega) (by omega) ?_ | refine IdxC.mk (by omega) (by omega) ?_ | refine brD (fun _ => ?_) (fun _ => ?_) | refine brND (fun _ => ?_) (fun _ => ?_) | refine brN (fun _ => ?_) (fun _ => ?_) | refine brI (fun _ => ?_) (fun _ => ?_))
        exact ⟨rfl, hx0.trans hS.ext⟩
      · have hfc : fc = 0 := by omega
        obtain ⟨bo, rfl, xs, hxs, hat⟩ := heq hfc
        have hzero := hRz hfc
        obtain rfl : ev = .nilIface := by
          rcases hf with ⟨_, h⟩ | ⟨_, h, _⟩
          · rw [h, hfc]
            rfl
          · omega
        replace hS := hS.keep 0
        clear hf hne heq hRs hRz hR
        (conv => whnf)
        rw [show (((n : Nat) : Int) != ((n : Nat) : Int)) = false by simp]
        (conv => whnf)
        refine loopR tabOk (fun σ w' q => ∃ k : Nat, σ = [(15, .int .i64 (k : Int)), (9, .slice (some ⟨bo, 0, none⟩) n n), (0, .slice a n c)] ∧ q = n - k ∧ k ≤ n ∧ St w2 No w' [])
          (σ' := [(15, .int .i64 ((0 : Nat) : Int)), (9, .slice (some ⟨bo, 0, none⟩) n n), (0, .slice a n c)]) (n := n) ⟨rfl, rfl, rfl, trivial⟩ ⟨0, rfl, rfl, Nat.zero_le _, hS⟩ ?_
        clear hS
        rintro _ w1 q ⟨k, rfl, rfl, hk, hS⟩
        (conv => whnf)
        refine brD (fun h3 => ?_) (fun h3 => ?_)
        · obtain ⟨b0, o0, s, hsk, _, rfl, _, hc⟩ := hx2.at (k := k) (by omega)
          have hsm := List.mem_of_getElem? hsk
          have hls := hlen s hsm
          have hz := hzero s hsm
          obtain ⟨x, ax, cx, hxk, hxv, hxr⟩ := hat k s hsk
          obtain ⟨b5, o5, x', hxk', _, hb5, _, hc5⟩ := hxs.at (k := k) (by omega)
          obtain rfl := Option.some.inj (hxk.symm.trans hxk')
          injection hb5 with hb5
          injection hb5 with e1 e2
          subst e1 e2
          have hcell := hc5 0 _ rfl
          rw [hxv] at hcell
          (conv => whnf)
          refine IdxC.mk (by omega) (by omega) ?_
          (conv => whnf)
          refine hS.ldr (hc 0 _ rfl) id ?_
          (conv => whnf)
          refine (rrulesOf_ok s hls _).mono ?_
          rintro v w4 ⟨⟨a4, c4, rfl, ho4, _⟩, hx4⟩
          replace hS := hS.no hx4
          have hw4 := ownL_slc (G := fun _ => True) codRule ho4 fun _ _ => trivial
          clear hx4 ho4
          have hx40 := hx0.trans hS.ext
          have hx42 := hx2.no hS.ext
          have hxr4 := hxr.no hS.ext
          have hcell4 := hS.ext.cell hcell id
          have hsv := hS.ext
          clear hS
          have hS := St.start w4 No
          (conv => whnf)
          refine hS.new (fun b14 w' hb14 hS => ?_)
          (conv => whnf)
          refine hS.st 0 rfl (Nat.le_of_ble_eq_true rfl) rfl (fun w' hS => ?_)
          (conv => whnf)
          refine IdxC.mk (by omega) (by omega) ?_
          (conv => whnf)
          refine hS.ldr (hsv.cell (hc 0 _ rfl) id) id ?_
          (conv => whnf)
          refine (preads_ok (q := q) s _ hls trivial ((hV.no hx40).no hS.ext) ((ht.no hx40).no hS.ext) ((hP.no hx40).no hS.ext) (((hE.sub rfl).cells.ext hx40 fun _ h => h.elim).ext hS.ext fun _ h => h.elim)).mono ?_
          rintro v w5 ⟨⟨a5, c5, e5, rfl, hf5, ho5, _⟩, hx5⟩
          replace hS := hS.no hx5
          have hw5 := ownL_slc (G := fun _ => True) codRule ho5 fun _ _ => trivial
          obtain rfl : e5 = .nilIface := by
            rw [hz] at hf5
            rcases hf5 with ⟨_, h⟩ | ⟨_, h, _⟩
            · exact h
            · omega
          (conv => whnf)
          refine IdxC.mk (by omega) (by omega) ?_
          (conv => whnf)
          refine hS.ldr hcell4 id ?_
          (conv => whnf)
          refine (sameRules_ok (hxr4.no hS.ext) ((hw4.no hS.ext))).mono ?_
          rintro v w6 ⟨rfl, hx6⟩
          replace hS := hS.no hx6
          rw [decide_eq_true rfl]
          (conv => whnf)
          refine (sameRules_ok (hw5.no hx6) (hw4.no hS.ext)).mono ?_
          rintro v w7 ⟨rfl, hx7⟩
          replace hS := hS.no hx7
          rw [decide_eq_true rfl]
          (conv => whnf)
          refine RngC.mk (by omega) (by omega) ?_
          (conv => whnf)
          refine LoopE.mk ⟨_, [(15, .int .i64 ((k + 1 : Nat) : Int)), (9, _), (0, _)], ?_, ⟨rfl, rfl, rfl, trivial⟩, ⟨k + 1, rfl, rfl, by omega, ?_⟩⟩
          · omega
          · have := (St.start w2 No).no (hsv.trans hS.ext)
            exact this
        · repeat' ((conv => whnf); first | refine RetC.mk ?_ | refine NzC.mk (by decide) ?_ | refine RngC.mk (by omega) (by omega) ?_ | refine IdxC.mk (by omega) (by omega) ?_ | refine brD (fun _ => ?_) (fun _ => ?_) | refine brND (fun _ => ?_) (fun _ => ?_) | refine brN (fun _ => ?_) (fun _ => ?_) | refine brI (fun _ => ?_) (fun _ => ?_))
          exact ⟨rfl, hx0.trans hS.ext⟩
  · have hi3 : i = n := by omega
    have hR2 : (fc, fa) = (fc', fa') := by
      rcases hinv with ⟨rfl, rfl, h⟩ | ⟨_, h⟩
      · rw [h, hi3, List.drop_of_length_le (by omega)]
        rfl
      · exact h
    obtain ⟨e1, e2⟩ := Prod.mk.inj hR2
    subst e1 e2
    (conv => whnf)
    refine hS.ld 0 rfl rfl ?_
    (conv => whnf)
    refine brD (fun h7 => ?_) (fun h7 => ?_)
    · obtain rfl := hne (by omega)
      (conv => whnf)
      refine hS.laX 0 rfl rfl ?_
      (conv => whnf)
      refine (faulted3_ok (hf.no hS.ext) hRs.2 hRs.1 ((hE.ext hx0 fun _ h => h.elim).ext hS.ext fun _ h => h.elim) ((hh.ext hx0).ext hS.ext)).mono ?_
      rintro v w9 ⟨rfl, hx9⟩
      replace hS := hS.no hx9
      repeat' ((conv => whnf); first | refine RetC.mk ?_ | refine NzC.mk (by decide) ?_ | refine RngC.mk (by omega) (by omega) ?_ | refine IdxC.mk (by omega) (by omega) ?_ | refine brD (fun _ => ?_) (fun _ => ?_) | refine brND (fun _ => ?_) (fun _ => ?_) | refine brN (fun _ => ?_) (fun _ => ?_) | refine brI (fun _ => ?_) (fun _ => ?_))
      exact ⟨rfl, hx0.trans hS.ext⟩
    · have hfc : fc = 0 := by omega
      obtain ⟨bo, rfl, xs, hxs, hat⟩ := heq hfc
      have hzero := hRz hfc
      obtain rfl : ev = .nilIface := by
        rcases hf with ⟨_, h⟩ | ⟨_, h, _⟩
        · rw [h, hfc]
          rfl
        · omega
      replace hS := hS.keep 0
      clear hf hne heq hRs hRz hR
      (conv => whnf)
      rw [show (((n : Nat) : Int) != ((n : Nat) : Int)) = false by simp]
      (conv => whnf)
      refine loopR tabOk (fun σ w' q => ∃ k : Nat, σ = [(15, .int .i64 (k : Int)), (9, .slice (some ⟨bo, 0, none⟩) n n), (0, .slice a n c)] ∧ q = n - k ∧ k ≤ n ∧ St w2 No w' [])
        (σ' := [(15, .int .i64 ((0 : Nat) : Int)), (9, .slice (some ⟨bo, 0, none⟩) n n), (0, .slice a n c)]) (n := n) ⟨rfl, rfl, rfl, trivial⟩ ⟨0, rfl, rfl, Nat.zero_le _, hS⟩ ?_
      clear hS
      rintro _ w1 q ⟨k, rfl, rfl, hk, hS⟩
      (conv => whnf)
      refine brD (fun h3 => ?_) (fun h3 => ?_)
      · obtain ⟨b0, o0, s, hsk, _, rfl, _, hc⟩ := hx2.at (k := k) (by omega)
        have hsm := List.mem_of_getElem? hsk
        have hls := hlen s hsm
        have hz := hzero s hsm
        obtain ⟨x, ax, cx, hxk, hxv, hxr⟩ := hat k s hsk
        obtain ⟨b5, o5, x', hxk', _, hb5, _, hc5⟩ := hxs.at (k := k) (by omega)
        obtain rfl := Option.some.inj (hxk.symm.trans hxk')
        injection hb5 with hb5
        injection hb5 with e1 e2
        subst e1 e2
        have hcell := hc5 0 _ rfl
        rw [hxv] at hcell
        (conv => whnf)
        refine IdxC.mk (by omega) (by omega) ?_
        (conv => whnf)
        refine hS.ldr (hc 0 _ rfl) id ?_
        (conv => whnf)
        refine (rrulesOf_ok s hls _).mono ?_
        rintro v w4 ⟨⟨a4, c4, rfl, ho4, _⟩, hx4⟩
        replace hS := hS.no hx4
        have hw4 := ownL_slc (G := fun _ => True) codRule ho4 fun _ _ => trivial
        clear hx4 ho4
        have hx40 := hx0.trans hS.ext
        have hx42 := hx2.no hS.ext
        have hxr4 := hxr.no hS.ext
        have hcell4 := hS.ext.cell hcell id
        have hsv := hS.ext
        clear hS
        have hS := St.start w4 No
        (conv => whnf)
        refine hS.new (fun b14 w' hb14 hS => ?_)
        (conv => whnf)
        refine hS.st 0 rfl (Nat.le_of_ble_eq_true rfl) rfl (fun w' hS => ?_)
        (conv => whnf)
        refine IdxC.mk (by omega) (by omega) ?_
        (conv => whnf)
        refine hS.ldr (hsv.cell (hc 0 _ rfl) id) id ?_
        (conv => whnf)
        refine (preads_ok (q := q) s _ hls trivial ((hV.no hx40).no hS.ext) ((ht.no hx40).no hS.ext) ((hP.no hx40).no hS.ext) (((hE.sub rfl).cells.ext hx40 fun _ h => h.elim).ext hS.ext fun _ h => h.elim)).mono ?_
        rintro v w5 ⟨⟨a5, c5, e5, rfl, hf5, ho5, _⟩, hx5⟩
        replace hS := hS.no hx5
        have hw5 := ownL_slc (G := fun _ => True) codRule ho5 fun _ _ => trivial
        obtain rfl : e5 = .nilIface := by
          rw [hz] at hf5
          rcases hf5 with ⟨_, h⟩ | ⟨_, h, _⟩
          · exact h
          · omega
        (conv => whnf)
        refine IdxC.mk (by omega) (by omega) ?_
        (conv => whnf)
        refine hS.ldr hcell4 id ?_
        (conv => whnf)
        refine (sameRules_ok (hxr4.no hS.ext) ((hw4.no hS.ext))).mono ?_
        rintro v w6 ⟨rfl, hx6⟩
        replace hS := hS.no hx6
        rw [decide_eq_true rfl]
        (conv => whnf)
        refine (sameRules_ok (hw5.no hx6) (hw4.no hS.ext)).mono ?_
        rintro v w7 ⟨rfl, hx7⟩
        replace hS := hS.no hx7
        rw [decide_eq_true rfl]
        (conv => whnf)
        refine RngC.mk (by omega) (by omega) ?_
        (conv => whnf)
        refine LoopE.mk ⟨_, [(15, .int .i64 ((k + 1 : Nat) : Int)), (9, _), (0, _)], ?_, ⟨rfl, rfl, rfl, trivial⟩, ⟨k + 1, rfl, rfl, by omega, ?_⟩⟩
        · omega
        · have := (St.start w2 No).no (hsv.trans hS.ext)
          exact this
      · repeat' ((conv => whnf); first | refine RetC.mk ?_ | refine NzC.mk (by decide) ?_ | refine RngC.mk (by omega) (by omega) ?_ | refine IdxC.mk (by omega) (by omega) ?_ | refine brD (fun _ => ?_) (fun _ => ?_) | refine brND (fun _ => ?_) (fun _ => ?_) | refine brN (fun _ => ?_) (fun _ => ?_) | refine brI (fun _ => ?_) (fun _ => ?_))
        exact ⟨rfl, hx0.trans hS.ext⟩
end
end Go.Proofs.YtgcbcagaibecbaaGreatDoor.Pool

namespace Go.Proofs.YtgcbcagaibecbaaGreatDoor.Pool
set_option maxRecDepth 20000
open Go Go.Conc Gap Ev Go.RowKit Go.Conc.Lib
local instance : Gap.Leaps := onLeaps

section
variable {P : Program} {Z O : Nat → Prop} {f : FuncId} {args : Array Value} {w W : World} {R : Value → World → Prop}
def EndP (Z O : Nat → Prop) (R : Value → World → Prop) (v : Value) (W' : World) : Prop := ∃ O' w', (∀ b, O b → O' b) ∧ Lag O' Z w' W' ∧ R v w'
theorem stepG_top {b : Frame} {fn : Func} {a : Act} {todo : List Item} {v : Value} {W W' : World} (hn : b.kind = .normal) (hi : P.inits.idxOf? b.fn = none) (hd : a.defers = []) (hf : P.funcs[b.fn]? = some fn) (hr : (results fn a.tmps).run P W = .ok v W') :
    stepG P true (G { b.at a todo with mode := .returning } []) W = .ended (.done v) W' (seen P b.fn ((results fn a.tmps).events P W #[])) := by
  simp [G, stepG, unwind, doReturn, Frame.at, hn, hd, hf, hr, hi, GStep.after]
theorem top_way (h : BodyG P f args w R) (hi : P.inits.idxOf? f = none) (hl : Lag O Z w W) : Gap.Way P true Z (TopStop P Z (EndP Z O R)) O (G (Frame.enter P f args .normal) []) W := by
  obtain ⟨fn, c, hf, hbody, hwp⟩ := h
  rw [enter_at args hf hbody]
  have leave : ∀ (a' : Act) (w' : World) (O' : Nat → Prop) (W2 : World) (todo : List Item), (∀ x, O x → O' x) → Lag O' Z w' W2 → (a'.defers = [] ∧ ∃ v, Quiet P (results fn a'.tmps) w' v w' ∧ R v w') →
      Gap.Way P true Z (TopStop P Z (EndP Z O R)) O' (G { (base f).at a' todo with mode := .returning } []) W2 := fun a' w' O' W2 todo ho' hl2 ⟨hd, v, hr, hp⟩ => by
    refine .stop fun W3 h3 => ?_
    obtain ⟨W4, hD4, hl4, _⟩ := hr O' Z W3 (hl2.rely h3)
    exact ⟨rfl, v, W4, _, stepG_top (b := base f) rfl hi hd hf hD4.run, hD4.guar fun e he => mem_seen he, _, w', (fun b hb => grow_sub b (ho' b hb)), hl4, hp⟩
  refine hwp true Z _ _ W (base f) [] _ (by simp [base]) hl fun e a' w' O' W2 ho' hl2 q => ?_
  cases e with
  | normal => exact .ctl rfl (fun _ => stepG_end) (leave a' w' O' W2 [] ho' hl2 q)
  | ret => exact fun todo => leave a' w' O' W2 todo ho' hl2 q
  | exit id => exact q.elim
  | goto l => exact q.elim
  | panic ch => exact q.elim
  | outgrown => exact q.elim
end

def OkB (W : World) (b : Nat) : Prop := ∃ o, W.heap[b]? = some o ∧ okObj o = true
def OddB (W : World) (b : Nat) : Prop := ∃ o, W.heap[b]? = some o ∧ okObj o = false
section
variable {P : Program} {W : World} {a : Goroutine}
theorem empty_touch (i : Nat) : touchAt #[] i = none := by simp [touchAt, Trace.act?]
theorem empty_g (i : Nat) : Trace.g? #[] i = none := by simp [Trace.g?]
theorem calm_start : Calm P (OddB W) (fun _ => False) #[a] W #[] (OkB W) := by
  refine ⟨⟨fun j g hj => ⟨fun _ => rfl, fun h0 => ?_⟩, fun j hj => rfl, ?_, ?_⟩⟩
  · exfalso
    have := (Array.getElem?_eq_some_iff.1 hj).1
    simp at this
    omega
  · refine ⟨fun said ⟨i, j, h⟩ => ?_, fun g b _ i a h => ?_, fun g _ b _ i a h => ?_, fun b h => h.elim, fun i a h => ?_, fun i a h => ?_, fun i g h => ?_, fun op h => ?_, fun l b h => h.elim⟩
    · obtain ⟨_, ⟨a, _, h1, _⟩, _⟩ := h
      simp [Trace.act?] at h1
    · rw [empty_touch] at h; cases h
    · rw [empty_touch] at h; cases h
    · rw [empty_touch] at h; cases h
    · rw [empty_touch] at h; cases h
    · rw [empty_g] at h; cases h
    · simp at h
  · refine ⟨fun g h b hne h1 h2 => hne (h1.1.trans h2.1.symm), fun g b h1 h2 => ?_, fun g b _ h => h, fun b _ h => h, fun g b h => ?_, fun b h => ?_, fun b h => h.elim⟩
    · obtain ⟨o, e1, e2⟩ := h1.2
      obtain ⟨o', e3, e4⟩ := h2
      rw [e1] at e3
      cases e3
      rw [e2] at e4
      cases e4
    · obtain ⟨o, e1, _⟩ := h.2
      exact (Array.getElem?_eq_some_iff.1 e1).1
    · obtain ⟨o, e1, _⟩ := h
      exact (Array.getElem?_eq_some_iff.1 e1).1
end
section
variable {P : Program} {f : FuncId} {args : Array Value} {W : World} {R : Value → World → Prop}
theorem good_run (h : BodyG P f args (Pool.view (OkB W) (OddB W) W) R) (hi : P.inits.idxOf? f = none) :
    ∃ N last o w' t', runNT P (N + 1) (solo (G (Frame.enter P f args .normal) []) W) #[] = (.ended o w', t') ∧ runN P N (solo (G (Frame.enter P f args .normal) []) W) = .next last ∧ step P last = .ended o w' ∧
      Go.Conc.Good P (fun v W' => EndP (OddB W) (OkB W) R v W' ∧ ∀ b, OddB W b → W'.heap[b]? = W.heap[b]?) last o w' t' := by
  have hl : Lag (OkB W) (OddB W) (Pool.view (OkB W) (OddB W) W) W := view_lag fun b hb => hb
  obtain ⟨N1, m1, t1, hrun, Shun', gs', W1, sl', O', g', rfl, hC, h0, hst, hz⟩ := spine (top_way h hi hl) (fun _ => False) #[G (Frame.enter P f args .normal) []] #[] none calm_start rfl
  have hst' : ∀ W2, Rely O' (OddB W) W1 W2 → TopStop P (OddB W) (fun v W' => EndP (OddB W) (OkB W) R v W' ∧ ∀ b, OddB W b → W'.heap[b]? = W.heap[b]?) O' g' W2 := fun W2 h2 => by
    obtain ⟨s1, v, W3, es, s2, s3, s4⟩ := hst W2 h2
    refine ⟨s1, v, W3, es, s2, s3, s4, fun b hb => ?_⟩
    have hlt := hC.core.apart.loZ b hb
    rw [s3.keep b (Nat.lt_of_lt_of_le hlt h2.size) fun h => hC.core.apart.shr 0 b ⟨rfl, h⟩ hb, h2.keep b (.inr hb)]
    exact hz b hb
  obtain ⟨N2, last, o, w', t', e1, e2, e3, e4⟩ := top_end (sl := sl') hC h0 hst'
  rw [← solo_eq_crowd] at hrun
  refine ⟨N1 + N2, last, o, w', t', ?_, ?_, e3, e4⟩
  · rw [Nat.add_assoc, runNT_add, hrun]
    exact e1
  · rw [runN_add, ← runNT_fst P N1 _ #[], hrun]
    exact e2
theorem end_ext {v : Value} {W' : World} {Q : Value → Prop} (h : EndP (OddB W) (OkB W) (fun v w' => Q v ∧ Ext No (Pool.view (OkB W) (OddB W) W) w') v W') (hz : ∀ b, OddB W b → W'.heap[b]? = W.heap[b]?) : Q v ∧ Ext No W W' := by
  obtain ⟨O', w', ho, hl, hq, hx⟩ := h
  refine ⟨hq, hl.os.symm.trans hx.os, hl.tape.symm.trans hx.tape, hl.output.symm.trans hx.output, ?_, fun b hb _ => ?_⟩
  · have h1 := hx.size
    have h2 : (Pool.view (OkB W) (OddB W) W).heap.size = W.heap.size := by simp [Pool.view]
    have := hl.size
    omega
  · obtain ⟨o, e⟩ : ∃ o, W.heap[b]? = some o := ⟨_, Array.getElem?_eq_getElem hb⟩
    cases hok : okObj o with
    | true =>
      have hO : OkB W b := ⟨o, e, hok⟩
      obtain ⟨o', g1, g2, _⟩ := hl.own b (ho b hO)
      have h3 := hx.block b (by simp [Pool.view]; exact hb) id
      rw [g2, ← g1, h3, view_own hO]
    | false => exact hz b ⟨o, e, hok⟩
theorem view_ok {b : Nat} {o : Obj} (h : W.heap[b]? = some o) (hk : okObj o = true) : (Pool.view (OkB W) (OddB W) W).heap[b]? = some o := (view_own ⟨o, h, hk⟩).trans h
theorem view_cellW {b o : Nat} {v : Value} (h : W.cell? ⟨b, o, none⟩ = some v) : (Pool.view (OkB W) (OddB W) W).cell? ⟨b, o, none⟩ = some v := by
  have h' := h
  unfold World.cell? at h'
  split at h'
  · rename_i c t fr he
    rw [← h]
    simp only [World.cell?, view_ok he rfl, he]
  · cases h'
theorem view_slc {α : Type} {sz n : Nat} {enc : α → List Value} {G : α → Prop} {a : Option Addr} {xs : List α} (h : Slc W sz enc G a n xs) : Slc (Pool.view (OkB W) (OddB W) W) sz enc G a n xs :=
  ⟨h.len, h.max, fun k x hk => let ⟨b, o, h1, h2, h3⟩ := h.cells k x hk; ⟨b, o, h1, by simp [Pool.view]; exact h2, fun j v hj => view_cellW (h3 j v hj)⟩, h.good⟩
theorem view_errs {E : Nat → Addr} {q : Nat} {ks : List Nat} (h : Errs W E q ks) : Errs (Pool.view (OkB W) (OddB W) W) E q ks :=
  ⟨fun k hk => view_cellW (h.at_ k hk), h.lt, fun k hk => let ⟨⟨c, t, h1⟩, h2⟩ := h.row k hk; ⟨⟨c, t, view_ok h1 rfl⟩, h2⟩, h.inj⟩
end
end Go.Proofs.YtgcbcagaibecbaaGreatDoor.Pool

namespace Go.Proofs.YtgcbcagaibecbaaGreatDoor
set_option maxRecDepth 20000
open Go
variable [Go.Proofs.YtgcbcagaibecbaaGreatDoor.Gap.Leaps]
theorem holds_tied_goes (Lk : Looks) {p : Pinned} {s : OpenSpec} {c : OpenClaim} (al : List (List PathCond)) (kinds : List LaidKind) (tests : Bool) (har : Bool × String) (lk : Bool)
    (hc : c.holds p s) (hal : ∀ D ∈ al, (c.withDomain D).holds p s) (hw : c.wfByText s = true) (hwal : ∀ D ∈ al, (c.withDomain D).wfByText s = true)
    (htie : c.laidByTextAt Lk p kinds tests)
    (hst : c.start = .entering) (hnb : c.noBlocks = false ∧ c.again = false) (hm : p.checked.prog.mainIs = some (har.1, har.2.toList)) (hn : (!har.1 && har.2.isEmpty && !lk) = false)
    (hl : ∀ f fn, p.checked.prog.funcNamed c.func = some f → p.checked.prog.funcs[f]? = some fn → lk = p.checked.prog.looks [] ∧ ∀ (j : Nat) t, fn.params[j]? = some t → p.checked.prog.wantsStandIn t = false)
    (hg : true = c.goesBy p.checked.prog) :
    Claim7.holds p (.plain s) { stood := { row := c, standIns := [], harness := har, looks := lk }, kinds := [], alts := al, goes := true, laidByText := true, laidKinds := kinds, laidTests := tests, laidLooks := Lk } := by
  have h6 : ∀ r : OpenClaim, Claim7.isSixth { stood := { row := r, standIns := [], harness := har, looks := lk }, kinds := [] } = false := fun r => by simpa [Claim7.isSixth] using hn
  refine ⟨Claim7.tied_new_at Lk kinds tests (Claim7.new_of_sixth hc har lk hst hnb hm (h6 c) hl) hw, fun D hD => ?_, htie, (fun h => by cases h), hg⟩
  exact Claim7.tied_new_at Lk kinds tests (Claim7.new_of_sixth (hal D hD) har lk hst hnb hm (h6 _) hl) (hwal D hD)
end Go.Proofs.YtgcbcagaibecbaaGreatDoor
