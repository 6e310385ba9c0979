/-
  Texts of this claim, joined: PlayC, PlayD, BornW, NodeL, LawW, RWorldC, RWorldD, RWorldE, RWorldF, RPlay.
-/
import Derived.Test.YtoaghhcjlfiflaaGreatDoorPlayRunsI

namespace Go.Proofs.YtoaghhcjlfiflaaGreatDoor
open Go Ev
def WorldS.say (W : WorldS) (v : Int) : Int × WorldS := if v < 0 then (-1, W) else (((W.one v).1 : Nat), (W.one v).2)
theorem run_cons (W : WorldS) (v : Int) (l : List Int) : W.run (v :: l) = ((W.say v).1 :: ((W.say v).2.run l).1, ((W.say v).2.run l).2) := by
  unfold WorldS.say
  show (if v < 0 then _ else _) = _
  split <;> rfl
theorem run_app : ∀ (a b : List Int) (W : WorldS), W.run (a ++ b) = ((W.run a).1 ++ ((W.run a).2.run b).1, ((W.run a).2.run b).2)
  | [], b, W => rfl
  | v :: a, b, W => by
    rw [List.cons_append, run_cons, run_cons, run_app a b]
    rfl
theorem run_len : ∀ (a : List Int) (W : WorldS), (W.run a).1.length = a.length
  | [], _ => rfl
  | v :: a, W => by
    rw [run_cons]
    show ((W.say v).2.run a).1.length + 1 = _
    rw [run_len a]
    rfl
theorem say_ok {m : Nat} {W : WorldS} (h : WOk m W) (hm : m + 340 ≤ 40000000) (v : Int) : WOk (m + 340) (W.say v).2 := by
  unfold WorldS.say
  split
  · exact h.mono (by omega)
  · exact one_ok h hm v
theorem run_take {W : WorldS} {l : List Int} {k : Nat} {v : Int} (h : l[k]? = some v) : W.run (l.take (k + 1)) = ((W.run (l.take k)).1 ++ [((W.run (l.take k)).2.say v).1], ((W.run (l.take k)).2.say v).2) := by
  rw [List.take_add_one, h]
  show W.run (l.take k ++ [v]) = _
  rw [run_app, run_cons]
  rfl
theorem runs_ok : ∀ (l : List Int) {m : Nat} {W : WorldS}, WOk m W → m + l.length * 340 ≤ 40000000 → WOk (m + l.length * 340) (W.run l).2
  | [], _, _, h, _ => h.mono (Nat.le_add_right _ _)
  | v :: l, m, W, h, hm => by
    have e : (v :: l).length = l.length + 1 := rfl
    generalize (v :: l).length = z at e hm ⊢
    subst e
    rw [run_cons]
    exact (runs_ok l (say_ok h (by omega) v) (by omega)).mono (by omega)
section
variable {w w' : World} {X : WorldA} {W : WorldS} {E : Nat → Addr} {q m : Nat}
theorem slcHeadE {P : Program} {α : Type} {sz : Nat} {enc : α → List Value} {G : α → Prop} {a : Option Addr} {n c : Nat} {xs : List α} {t e : TypeId} {q : IntKind} {i : Int} {k : Value → Prop} (hx : Slc w sz enc G a n xs) (hnc : n ≤ c) (hu : P.underlying t = some (.slice e)) (he : (P.info? e).isSome = true) (hi : i = (n : Int))
    (hk : ∀ a' c', (0 < n → a' = a) → Slc w sz enc G a' n xs → k (.slice a' n c')) : PureC P (Instr.sliceAt t (.slice a n c) none (some (.int q i)) none) k := by
  subst hi
  have ht : P.underlying t = some (.slice (P.elem t)) := by rw [elem_of hu]; exact hu
  have hsame : 0 < n → (if c = 0 then a else a.map (·.add 0)) = a := fun h0 => by
    obtain ⟨x, hx0⟩ : ∃ x, xs[0]? = some x := ⟨_, List.getElem?_eq_getElem (by rw [hx.len]; exact h0)⟩
    obtain ⟨b, o, rfl, _⟩ := hx.cells 0 x hx0
    split <;> rfl
  refine ⟨.slice (if c = 0 then a else a.map (·.add 0)) n c, fun w => ?_, hk _ _ hsame ?_⟩
  · rw [run_sliceAt_slice w t _ _ _ _ ht, run_slice_h w t a n c ht q _ (by omega) (by omega), elem_of hu, cellsOf_run he]
    simp [sliced]
  · have := hx.take n (Nat.le_refl _) _ hsame
    rwa [List.take_of_length_le (by rw [hx.len]; exact Nat.le_refl _)] at this
structure Codes (E : Nat → Addr) (q : Nat) (w : World) : Prop where
  errs : Errs w E q allErrs
  handle : Handle w
  lt : 11 < q
theorem Codes.turns {H H' : List Ent} (h : Codes E q w) (hH : High H q) (k : Turns w w' H H') : Codes E q w' :=
  ⟨h.errs.turns hH k, k.ext.cell h.handle (fun hb => by have := hH _ hb; have := h.lt; omega), h.lt⟩
theorem Codes.no (h : Codes E q w) (hx : Ext No w w') : Codes E q w' := ⟨h.errs.ext hx fun _ h => h.elim, h.handle.ext hx, h.lt⟩
theorem prun_ok {a : Option Addr} {n c : Nat} {xs : List Int} (hx : Slc w 1 encI (fun v => v ≤ 9223372036854775807) a n xs) (hn : n ≤ 300) (hnc : n ≤ c) (hsrc : 0 < n → ∀ b0 o0, a = some ⟨b0, o0, none⟩ → ¬ inF (worldH X W) b0) (h : Stands E q m w X W) (hC : Codes E q w) (hm : m + 340 * n ≤ 40000000) :
    CallC Tryz.prog 33 #[.pointer (some ⟨X.w, 0, none⟩), .slice a n c] w fun v w' => ∃ a' c' X', v = .slice a' n c' ∧ X'.w = X.w ∧ Turns w w' (worldH X W) (ownL 3 1 encI v (W.run xs).1 :: worldH X' (W.run xs).2) := by
  have hl := hx.len
  refine fn_intro tabOk Tryz.func33 (by kernel_rfl) rfl Tryz.ntmps33 (Nat.le_of_ble_eq_true rfl) ?_
  (conv => whnf)
  rw [if_neg (by omega)]
  refine slcHeadE hx hnc Tryz.underlying62 (by kernel_rfl) rfl (fun a1 c1 h1 hx1 => ?_)
  have hsrc1 : 0 < n → ∀ b0 o0, a1 = some ⟨b0, o0, none⟩ → ¬ inF (worldH X W) b0 := fun h0 b0 o0 h2 => hsrc h0 b0 o0 ((h1 h0) ▸ h2)
  clear hsrc hx h1 hnc
  have hS : St w (inF (worldH X W)) w ([ownL 3 1 encI (.slice none 0 0) []] ++ worldH X W) := (h.has.start.addNil 3 1 encI).perm (List.perm_append_comm)
  (conv => whnf)
  refine loopR tabOk (fun σ w' r => ∃ (k : Nat) (a' : Option Addr) (c' : Nat) (X' : WorldA), σ = [(15, .int .i64 k), (14, .int .i64 (n : Nat)), (13, .slice a1 n c1), (5, .slice a' k c'), (0, .pointer (some ⟨X.w, 0, none⟩))] ∧ r = n - k ∧ k ≤ n ∧ X'.w = X.w ∧ St w (inF (worldH X W)) w' ([ownL 3 1 encI (.slice a' k c') (W.run (xs.take k)).1] ++ worldH X' (W.run (xs.take k)).2))
    (σ' := [(15, .int .i64 ((0 : Nat) : Int)), (14, .int .i64 (n : Nat)), (13, .slice a1 n c1), (5, .slice none 0 0), (0, .pointer (some ⟨X.w, 0, none⟩))]) (n := n) ⟨rfl, rfl, rfl, rfl, rfl, trivial⟩ ⟨0, none, 0, X, rfl, rfl, Nat.zero_le _, rfl, hS⟩ ?_
  clear hS
  rintro _ w1 r ⟨k, a', c', X', rfl, rfl, hk, hw, hS⟩
  (conv => whnf)
  refine brD (fun h3 => ?_) (fun h3 => ?_)
  · have hx2 := hx1.extN hS.ext hsrc1
    obtain ⟨b0, o0, v, hv, hvb, rfl, hb0, hcv⟩ := hx2.at (k := k) (by omega)
    have hst := run_take (W := W) hv
    have hok := runs_ok (xs.take k) h.ok (by rw [List.length_take]; omega)
    have hrl : (W.run (xs.take k)).1.length = k := by rw [run_len, List.length_take]; omega
    have hTH : Turns w w1 (worldH X W) (worldH X' (W.run (xs.take k)).2) := ⟨hS.ext, hS.has.right, fun e he b hb => (hS.may e (List.mem_append_right _ he) b hb).1⟩
    have hsd : Stands E q (m + (xs.take k).length * 340) w1 X' (W.run (xs.take k)).2 := h.turns hTH hok
    have hCd := hC.turns h.high hTH
    have hlt : m + (xs.take k).length * 340 + 340 ≤ 40000000 := by rw [List.length_take]; omega
    generalize W.run (xs.take k) = R at *
    (conv => whnf)
    refine IdxC.mk (by omega) (by omega) ?_
    (conv => whnf)
    refine ldc (hcv.one 0 rfl) ?_
    (conv => whnf)
    refine brD (fun h4 => ?_) (fun h4 => ?_)
    · have hsay : R.2.say v = ((((R.2.one v).1 : Nat) : Int), (R.2.one v).2) := if_neg (by omega)
      rw [hsay] at hst
      (conv => whnf)
      rw [← hw]
      refine (pone_ok v (by omega) hvb hsd hlt).mono ?_
      rintro v1 w2 ⟨rfl, X2, hw2, hT2⟩
      replace hS := St.callAt (A := [_]) (B := []) (H := worldH X' R.2) (by simpa using hS) hT2
      rw [List.append_nil] at hS
      (conv => whnf)
      refine (code_ok (R.2.one v).1 (one_code _ _) _ (hCd.turns hsd.high hT2).errs (hCd.turns hsd.high hT2).handle).mono ?_
      rintro v1 w3 ⟨rfl, hx3⟩
      replace hS := hS.no hx3
      (conv => whnf)
      refine hS.lit Tryz.underlying62 (sz := 1) (by kernel_rfl) (z := .int .i64 0) (by kernel_rfl) rfl rfl (cs := encI (((R.2.one v).1 : Nat) : Int)) (by rfl) (fun b9 w4 hb9 hS => ?_)
      replace hS := hS.perm List.perm_append_comm
      (conv => whnf)
      refine hS.appS codInt 1 (ys := [(((R.2.one v).1 : Nat) : Int)]) (G := fun _ => True) Tryz.underlying62 (bytes := 8) (by kernel_rfl) (z := .int .i64 0) (by kernel_rfl) rfl rfl (Slc.of_blk codInt (hS.blk 0 rfl) rfl (by simp) (fun _ _ => trivial) rfl) (by rw [hrl]; unfold maxLen; omega) (by rw [hrl]; omega) (fun a2 c2 w5 hS => ?_)
      rw [hrl] at hS ⊢
      replace hS := (hS.as (H' := [_] ++ ([ownL 3 1 encI (.slice a2 (k + 1) c2) (R.1 ++ [(((R.2.one v).1 : Nat) : Int)])] ++ worldH X2 (R.2.one v).2)) rfl).weaken (List.sublist_append_right _ _)
      (conv => whnf)
      refine RngC.mk (by omega) (by omega) ?_
      (conv => whnf)
      refine LoopE.mk ⟨_, [(15, .int .i64 ((k + 1 : Nat) : Int)), (14, _), (13, _), (5, .slice a2 (k + 1) c2), (0, _)], ?_, ⟨rfl, rfl, rfl, rfl, rfl, trivial⟩, ⟨k + 1, a2, c2, X2, rfl, rfl, by omega, hw2, by rw [hst]; exact hS⟩⟩
      omega
    · have hsay : R.2.say v = (-1, R.2) := if_pos (by omega)
      rw [hsay] at hst
      rw [← hw]
      (conv => whnf)
      refine hS.lit Tryz.underlying62 (sz := 1) (by kernel_rfl) (z := .int .i64 0) (by kernel_rfl) rfl rfl (cs := encI (-1 : Int)) (by rfl) (fun b9 w4 hb9 hS => ?_)
      replace hS := hS.perm List.perm_append_comm
      (conv => whnf)
      refine hS.appS codInt 1 (ys := [(-1 : Int)]) (G := fun _ => True) Tryz.underlying62 (bytes := 8) (by kernel_rfl) (z := .int .i64 0) (by kernel_rfl) rfl rfl (Slc.of_blk codInt (hS.blk 0 rfl) rfl (by simp) (fun _ _ => trivial) rfl) (by rw [hrl]; unfold maxLen; omega) (by rw [hrl]; omega) (fun a2 c2 w5 hS => ?_)
      rw [hrl] at hS ⊢
      replace hS := (hS.as (H' := [_] ++ ([ownL 3 1 encI (.slice a2 (k + 1) c2) (R.1 ++ [(-1 : Int)])] ++ worldH X' R.2)) rfl).weaken (List.sublist_append_right _ _)
      (conv => whnf)
      refine RngC.mk (by omega) (by omega) ?_
      (conv => whnf)
      refine LoopE.mk ⟨_, [(15, .int .i64 ((k + 1 : Nat) : Int)), (14, _), (13, _), (5, .slice a2 (k + 1) c2), (0, _)], ?_, ⟨rfl, rfl, rfl, rfl, rfl, trivial⟩, ⟨k + 1, a2, c2, X', rfl, rfl, by omega, rfl, by rw [hst]; exact hS⟩⟩
      omega
  · obtain rfl : k = n := by omega
    rw [List.take_of_length_le (by omega)] at hS
    repeat' ((conv => whnf); first | refine RetC.mk ?_ | refine NzC.mk (by decide) ?_ | refine RngC.mk (by omega) (by omega) ?_ | refine IdxC.mk (by omega) (by omega) ?_ | refine brD (fun _ => ?_) (fun _ => ?_) | refine brND (fun _ => ?_) (fun _ => ?_) | refine brN (fun _ => ?_) (fun _ => ?_) | refine brI (fun _ => ?_) (fun _ => ?_))
    exact ⟨a', c', X', rfl, hw, St.turns hS⟩
end
end Go.Proofs.YtoaghhcjlfiflaaGreatDoor

namespace Go.Proofs.YtoaghhcjlfiflaaGreatDoor
open Go Ev
theorem setSide_fly (W : WorldS) (n : Int) (s : SideS) : (W.setSide n s).fly = W.fly := by
  unfold WorldS.setSide
  split <;> rfl
theorem got_fly (W : WorldS) (x : NoteS) : (W.got x).fly = W.fly := by
  unfold WorldS.got
  repeat' split
  all_goals first | rfl | exact setSide_fly _ _ _
theorem deliver0 {W : WorldS} {j : Nat} (h : W.fly.length = j + 1) : (W.deliver 0).1 = 0 ∧ (W.deliver 0).2.fly.length = j := by
  unfold WorldS.deliver
  have ha : W.at_ 0 = 0 := by unfold WorldS.at_; rw [if_neg (by omega)]
  rw [if_neg (fun h => h ha)]
  obtain ⟨x, hx⟩ : ∃ x, W.fly[(0 : Int).toNat]? = some x := ⟨_, List.getElem?_eq_getElem (show 0 < W.fly.length by omega)⟩
  rw [hx]
  refine ⟨rfl, ?_⟩
  show ((W.off 0).got x).fly.length = j
  rw [got_fly]
  show (W.fly.eraseIdx 0).length = j
  rw [List.length_eraseIdx, if_pos (by omega)]
  omega
theorem deliver_none {W : WorldS} (h : W.fly.length = 0) : W.deliver 0 = (4, W) := by
  have ha : W.at_ 0 = 4 := by unfold WorldS.at_; rw [if_pos (by omega)]
  unfold WorldS.deliver
  rw [if_pos (by rw [ha]; decide), ha]
section
variable {w w' : World} {X : WorldA} {W : WorldS} {E : Nat → Addr} {q m : Nat}
theorem psettle_ok (n : Int) (h : Stands E q m w X W) (hm : m + 34 * 24 ≤ 40000000) : CallC Tryz.prog 25 #[.pointer (some ⟨X.w, 0, none⟩), .int .i64 n] w (Does E w X W (W.settle n 24)) := by
  refine fn_intro tabOk Tryz.func25 (by kernel_rfl) rfl Tryz.ntmps25 (Nat.le_of_ble_eq_true rfl) ?_
  (conv => whnf)
  refine loopR tabOk (fun σ w' r => ∃ (i : Nat) (X' : WorldA) (W' : WorldS), σ = [(6, .int .i64 i), (1, .int .i64 n), (0, .pointer (some ⟨X.w, 0, none⟩))] ∧ r = 24 - i ∧ i ≤ 24 ∧ X'.w = X.w ∧ Stands E q (m + 34 * i) w' X' W' ∧ Turns w w' (worldH X W) (worldH X' W') ∧ W.settle n 24 = W'.settle n (24 - i))
    (σ' := [(6, .int .i64 ((0 : Nat) : Int)), (1, .int .i64 n), (0, .pointer (some ⟨X.w, 0, none⟩))]) (n := 24) ⟨rfl, rfl, rfl, trivial⟩ ⟨0, X, W, rfl, rfl, Nat.zero_le _, rfl, h, Turns.refl h.has, rfl⟩ ?_
  rintro _ w1 r ⟨i, X', W', rfl, rfl, hi, hw, hst, hT, hr⟩
  (conv => whnf)
  refine brD (fun h3 => ?_) (fun h3 => ?_)
  · obtain ⟨j, hj⟩ : ∃ j, 24 - i = j + 1 := ⟨24 - i - 1, by omega⟩
    rw [hj] at hr
    (conv => whnf)
    rw [← hw]
    refine (wtick_ok n hst (by omega)).mono ?_
    rintro v w2 ⟨rfl, X2, hw2, hT2⟩
    have hst2 := hst.turns hT2 (hst.ok.tick (by omega) n)
    have hT3 := hT.trans hT2
    cases he : (W'.tick n).1 with
    | succ e =>
      have hr2 : W.settle n 24 = W'.tick n := by
        rw [hr]
        show (if (W'.tick n).1 ≠ 0 then _ else _) = _
        rw [if_pos (by rw [he]; exact Nat.succ_ne_zero e)]
      repeat' ((conv => whnf); first | refine RetC.mk ?_ | refine NzC.mk (by decide) ?_ | refine RngC.mk (by omega) (by omega) ?_ | refine IdxC.mk (by omega) (by omega) ?_ | refine brD (fun _ => ?_) (fun _ => ?_) | refine brND (fun _ => ?_) (fun _ => ?_) | refine brN (fun _ => ?_) (fun _ => ?_) | refine brI (fun _ => ?_) (fun _ => ?_))
      rw [hr2]
      exact ⟨by rw [he], X2, hw2.trans hw, hT3⟩
    | zero =>
      have hr2 : W.settle n 24 = ((W'.tick n).2.land (W'.tick n).2.fly.length).settle n j := by
        rw [hr]
        show (if (W'.tick n).1 ≠ 0 then _ else _) = _
        rw [if_neg (fun h => h he)]
      rw [← hw2]
      generalize (W'.tick n).2 = V at hr2 hst2 hT2 hT3
      (conv => whnf)
      refine loopR tabOk (fun σ w' r => ∃ (X4 : WorldA) (V4 : WorldS), σ = [(6, .int .i64 i), (1, .int .i64 n), (0, .pointer (some ⟨X2.w, 0, none⟩))] ∧ r = V4.fly.length ∧ X4.w = X2.w ∧ Stands E q (m + 34 * i + 34) w' X4 V4 ∧ Turns w w' (worldH X W) (worldH X4 V4) ∧ V.land V.fly.length = V4.land V4.fly.length)
        (σ' := [(6, .int .i64 i), (1, .int .i64 n), (0, .pointer (some ⟨X2.w, 0, none⟩))]) (n := V.fly.length) ⟨rfl, rfl, rfl, trivial⟩ ⟨X2, V, rfl, rfl, rfl, hst2, hT3, rfl⟩ ?_
      rintro _ w4 r ⟨X4, V4, rfl, rfl, hw4, hst4, hT4, hr4⟩
      (conv => whnf)
      rw [← hw4]
      refine (wdeliver_ok 0 hst4).mono ?_
      rintro v w5 ⟨rfl, X5, hw5, hT5⟩
      cases hf : V4.fly.length with
      | zero =>
        rw [deliver_none hf] at hT5 ⊢
        (conv => whnf)
        refine RngC.mk (by omega) (by omega) ?_
        (conv => whnf)
        refine LoopE.mk ⟨_, [(6, .int .i64 ((i + 1 : Nat) : Int)), (1, _), (0, .pointer (some ⟨X4.w, 0, none⟩))], ?_, ⟨rfl, rfl, rfl, trivial⟩, ⟨i + 1, X5, V4, rfl, rfl, by omega, hw5, hst4.turns hT5 hst4.ok, hT4.trans hT5, ?_⟩⟩
        · omega
        · rw [hr2, hr4, hf]
          show V4.settle n j = V4.settle n (24 - (i + 1))
          congr 1
          omega
      | succ l =>
        obtain ⟨hd1, hd2⟩ := deliver0 hf
        rw [hd1]
        (conv => whnf)
        refine LoopE.mk ⟨_, [(6, _), (1, _), (0, .pointer (some ⟨X4.w, 0, none⟩))], ?_, ⟨rfl, rfl, rfl, trivial⟩, ⟨X5, (V4.deliver 0).2, rfl, rfl, hw5, hst4.turns hT5 (hst4.ok.deliver 0), hT4.trans hT5, ?_⟩⟩
        · omega
        · rw [hr4, hf, hd2]
          show (if V4.fly.length = 0 then _ else _) = _
          rw [if_neg (by omega)]
  · obtain rfl : i = 24 := by omega
    repeat' ((conv => whnf); first | refine RetC.mk ?_ | refine NzC.mk (by decide) ?_ | refine RngC.mk (by omega) (by omega) ?_ | refine IdxC.mk (by omega) (by omega) ?_ | refine brD (fun _ => ?_) (fun _ => ?_) | refine brND (fun _ => ?_) (fun _ => ?_) | refine brN (fun _ => ?_) (fun _ => ?_) | refine brI (fun _ => ?_) (fun _ => ?_))
    rw [hr]
    exact ⟨rfl, X', hw, hT⟩
end
end Go.Proofs.YtoaghhcjlfiflaaGreatDoor

namespace Go.Proofs.YtoaghhcjlfiflaaGreatDoor
open Go Ev
def bornFacts : Bool :=
  let R := (WorldS.born []).ticks 0 10
  let D := R.2.deliver 0
  R.1 == 0 && R.2.to == -1 && R.2.epoch == 0 && R.2.fly.length == 1 && D.1 == 0 && D.2.to == 0 && D.2.epoch == 2 && D.2.events.length == 1
theorem bornFacts_true : bornFacts = true := by decide +kernel
theorem born_plain : ((WorldS.born []).ticks 0 10).1 = 0 ∧ ((WorldS.born []).ticks 0 10).2.to = -1 ∧ ((WorldS.born []).ticks 0 10).2.epoch = 0 ∧ ((WorldS.born []).ticks 0 10).2.fly.length = 1 ∧ (((WorldS.born []).ticks 0 10).2.deliver 0).1 = 0 ∧ (((WorldS.born []).ticks 0 10).2.deliver 0).2.to = 0 ∧ (((WorldS.born []).ticks 0 10).2.deliver 0).2.epoch = 2 ∧ (((WorldS.born []).ticks 0 10).2.deliver 0).2.events.length = 1 := by
  have h := bornFacts_true
  unfold bornFacts at h
  simpa [Bool.and_eq_true, and_assoc] using h
section
variable {w w' : World} {X : WorldA} {W : WorldS} {E : Nat → Addr} {q m : Nat}
theorem Ext.new_of {H H' : List Ent} {w w1 w' : World} (h : Ext No w w1) (hf : ∀ b, inF H b → w.heap.size ≤ b) (k : Turns w1 w' H H') : Ext No w w' := h.then k.ext fun b hb => .inr (hf b hb)
theorem born_ok' (hE : Errs w E q insErrs) (hq : q ≤ w.heap.size) : CallC Tryz.prog 9 #[] w fun v w' => v = .bool true ∧ Ext No w w' := by
  obtain ⟨b1, b2, b3, b4, b5, b6, b7, b8⟩ := born_plain
  have hnil : Slc w 5 encRule (fun _ => True) none 0 ([] : List RuleS) := ⟨rfl, by decide, fun k x hk => by simp at hk, fun _ _ => trivial⟩
  refine fn_intro tabOk Tryz.func9 (by kernel_rfl) rfl Tryz.ntmps9 (Nat.le_of_ble_eq_true rfl) ?_
  (conv => whnf)
  refine (wnew_ok hnil (by decide) hE hq (by decide)).mono ?_
  rintro v w1 ⟨X, rfl, hx, hst, hf⟩
  (conv => whnf)
  generalize WorldS.born [] = V at *
  refine loopR tabOk (fun σ w' r => ∃ (i : Nat) (X' : WorldA) (W' : WorldS), σ = [(3, .int .i64 i), (1, .pointer (some ⟨X.w, 0, none⟩))] ∧ r = 10 - i ∧ i ≤ 10 ∧ X'.w = X.w ∧ Stands E q (34 * i) w' X' W' ∧ Turns w1 w' (worldH X V) (worldH X' W') ∧ V.ticks 0 10 = W'.ticks 0 (10 - i))
    (σ' := [(3, .int .i64 ((0 : Nat) : Int)), (1, .pointer (some ⟨X.w, 0, none⟩))]) (n := 10) ⟨rfl, rfl, trivial⟩ ⟨0, X, V, rfl, rfl, Nat.zero_le _, rfl, hst, Turns.refl hst.has, rfl⟩ ?_
  rintro _ w2 r ⟨i, X', W', rfl, rfl, hi, hw, hst2, hT, hr⟩
  (conv => whnf)
  refine brD (fun h3 => ?_) (fun h3 => ?_)
  · obtain ⟨j, hj⟩ : ∃ j, 10 - i = j + 1 := ⟨10 - i - 1, by omega⟩
    rw [hj] at hr
    (conv => whnf)
    rw [← hw]
    refine (wtick_ok 0 hst2 (by omega)).mono ?_
    rintro v w3 ⟨rfl, X3, hw3, hT3⟩
    have hst3 := hst2.turns hT3 (hst2.ok.tick (by omega) 0)
    have he : (W'.tick 0).1 = 0 := by
      refine Classical.byContradiction fun h => ?_
      rw [hr, show W'.ticks 0 (j + 1) = if (W'.tick 0).1 ≠ 0 then W'.tick 0 else (W'.tick 0).2.ticks 0 j from rfl, if_pos h] at b1
      exact h b1
    have hr2 : V.ticks 0 10 = (W'.tick 0).2.ticks 0 j := by
      rw [hr, show W'.ticks 0 (j + 1) = if (W'.tick 0).1 ≠ 0 then W'.tick 0 else (W'.tick 0).2.ticks 0 j from rfl, if_neg (fun h => h he)]
    rw [he]
    (conv => whnf)
    refine RngC.mk (by omega) (by omega) ?_
    (conv => whnf)
    refine LoopE.mk ⟨_, [(3, .int .i64 ((i + 1 : Nat) : Int)), (1, .pointer (some ⟨X'.w, 0, none⟩))], ?_, ⟨rfl, rfl, trivial⟩, ⟨i + 1, X3, (W'.tick 0).2, rfl, rfl, by omega, hw3, hst3, hT.trans hT3, by rw [hr2]; congr 1; omega⟩⟩
    omega
  · obtain rfl : i = 10 := by omega
    rw [hr] at b1 b2 b3 b4 b5 b6 b7 b8
    change W'.to = _ at b2
    change W'.epoch = _ at b3
    change W'.fly.length = _ at b4
    change (W'.deliver 0).1 = _ at b5
    change (W'.deliver 0).2.to = _ at b6
    change (W'.deliver 0).2.epoch = _ at b7
    change (W'.deliver 0).2.events.length = _ at b8
    rw [← hw]
    (conv => whnf)
    refine (wswitch_ok hst2.has).mono ?_
    rintro v w3 ⟨rfl, hx3⟩
    rw [b2, b3]
    have hst3 := hst2.no hx3
    (conv => whnf)
    refine (wflying_ok hst3).mono ?_
    rintro v w4 ⟨a', c', vs', rfl, hx4, _⟩
    have hst4 := hst3.no hx4
    rw [b4]
    (conv => whnf)
    refine (wdeliver_ok 0 hst4).mono ?_
    rintro v w5 ⟨rfl, X5, hw5, hT5⟩
    rw [b5, ← hw5]
    have hst5 := hst4.turns hT5 (hst4.ok.deliver 0)
    (conv => whnf)
    refine (wswitch_ok hst5.has).mono ?_
    rintro v w6 ⟨rfl, hx6⟩
    rw [b6, b7]
    have hst6 := hst5.no hx6
    (conv => whnf)
    refine (wevents_ok hst6).mono ?_
    rintro v w7 ⟨a7, c7, rfl, hx7, _⟩
    rw [b8]
    repeat' ((conv => whnf); first | refine RetC.mk ?_ | refine NzC.mk (by decide) ?_ | refine RngC.mk (by omega) (by omega) ?_ | refine IdxC.mk (by omega) (by omega) ?_ | refine brD (fun _ => ?_) (fun _ => ?_) | refine brND (fun _ => ?_) (fun _ => ?_) | refine brN (fun _ => ?_) (fun _ => ?_) | refine brI (fun _ => ?_) (fun _ => ?_))
    refine ⟨rfl, ?_⟩
    have hT7 := (((hT.trans (Turns.of_no hst2.has (hx3.trans hx4))).trans hT5).trans (Turns.of_no hst5.has (hx6.trans hx7)))
    exact Ext.new_of hx hf hT7
end
end Go.Proofs.YtoaghhcjlfiflaaGreatDoor

namespace Go.Proofs.YtoaghhcjlfiflaaGreatDoor
open Go Ev
section
variable {w : World}
theorem backNotes_ok {G : NoteV → Prop} {a : Option Addr} {n c : Nat} {xs : List NoteV} (hx : Slc w 5 encNV G a n xs) (hn : n ≤ 1000) :
    CallC Tryz.prog 36 #[.slice a n c] w fun v w' => ∃ a' c', v = .slice a' n c' ∧ Ext No w w' ∧ (ownL 134 5 encNV v xs).holds w' ∧ Fresh w w' v := by
  have hl := hx.len
  refine fn_intro tabOk Tryz.func36 (by kernel_rfl) rfl Tryz.ntmps36 (Nat.le_of_ble_eq_true rfl) ?_
  have hS := (St.start w No).addNil 134 5 encNV
  (conv => whnf)
  refine loopR tabOk (fun σ w' q => ∃ (k : Nat) (a' : Option Addr) (c' : Nat), σ = [(4, .int .i64 k), (3, .slice a' k c'), (0, .slice a n c)] ∧ q = n - k ∧ k ≤ n ∧ St w No w' [ownL 134 5 encNV (.slice a' k c') (xs.take k)])
    (σ' := [(4, .int .i64 ((0 : Nat) : Int)), (3, .slice none 0 0), (0, .slice a n c)]) (n := n) ⟨rfl, rfl, rfl, trivial⟩ ⟨0, none, 0, rfl, rfl, Nat.zero_le _, hS⟩ ?_
  clear hS
  rintro _ w1 q ⟨k, a', c', rfl, rfl, hk, hS⟩
  (conv => whnf)
  refine brD (fun h3 => ?_) (fun h3 => ?_)
  · obtain ⟨b0, o0, x, hxk, _, rfl, hb0, hc⟩ := hx.at (k := k) (by omega)
    have hT : ¬ w.heap.size ≤ b0 := Nat.not_le.2 hb0
    have hlk : (xs.take k).length = k := by rw [List.length_take]; omega
    have hst : xs.take (k + 1) = xs.take k ++ [x] := by rw [List.take_add_one, hxk]; rfl
    (conv => whnf)
    (refine drawS tabOk mixed [] (fun b => w.heap.size ≤ b) [0, 1, 2, 3, 4, 5, 6, 7, 8, 9, 10, 11, 12, 13, 14, 15, 16, 17, 18, 19, 20, 21, 22, 23, 24, 25, 26, 27, 28, 29] (by kernel_rfl) ?_; rintro w1 rfl; replace hS := hS.drew)
    have hK := hS.ref (fun b => w.heap.size ≤ b)
    repeat' ((conv => whnf); first | refine IdxC.mk (by omega) (by omega) ?_ | refine hS.ldrF (hc.one 0 rfl) id hT ?_ | refine hS.ldrF (hc.one 1 rfl) id hT ?_ | refine hS.ldrF (hc.one 2 rfl) id hT ?_ | refine hS.ldrF (hc.one 3 rfl) id hT ?_ | refine hS.ldrF (hc.one 4 rfl) id hT ?_)
    refine hS.litX Tryz.underlying79 (sz := 5) (by kernel_rfl) (z := .agg (encNV noNV).toArray) (by kernel_rfl) rfl rfl (cs := encNV x) (by rfl) (fun b9 w3 hb9 hx3 hS => ?_)
    replace hK := hK.trans hx3.of_no
    refine KeepC.mk hK ?_
    clear hx3
    have hfr := hS.freshAt 0 rfl
    (conv => whnf)
    refine hS.appX codNote 0 (ys := [x]) (G := fun _ => True) Tryz.underlying79 (bytes := 56) (by kernel_rfl) (z := .agg (encNV noNV).toArray) (by kernel_rfl) rfl rfl (Slc.of_blk codNote (hS.blk 1 rfl) rfl (by simp) (fun _ _ => trivial) rfl) (by rw [hlk]; unfold maxLen; omega) (by rw [hlk]; omega) (fun a2 c2 w4 hx4 hS => ?_)
    replace hK := hK.trans (hx4.mono fun q h => (hfr q h).1)
    refine KeepC.mk hK ?_
    clear hx4 hK hfr
    rw [hlk] at hS ⊢
    replace hS := hS.keep 1
    replace hS : St w No w4 [ownL 134 5 encNV (.slice a2 (k + 1) c2) (xs.take (k + 1))] := by rw [hst]; exact hS
    (conv => whnf)
    refine RngC.mk (by omega) (by omega) ?_
    (conv => whnf)
    refine LoopE.mk ⟨_, [(4, .int .i64 ((k + 1 : Nat) : Int)), (3, _), (0, _)], ?_, ⟨rfl, rfl, rfl, trivial⟩, ⟨k + 1, a2, c2, rfl, rfl, by omega, hS⟩⟩
    omega
  · obtain rfl : k = n := by omega
    rw [List.take_of_length_le (by omega)] at hS
    repeat' ((conv => whnf); first | refine RetC.mk ?_ | refine NzC.mk (by decide) ?_ | refine RngC.mk (by omega) (by omega) ?_ | refine IdxC.mk (by omega) (by omega) ?_ | refine brD (fun _ => ?_) (fun _ => ?_) | refine brND (fun _ => ?_) (fun _ => ?_) | refine brN (fun _ => ?_) (fun _ => ?_) | refine brI (fun _ => ?_) (fun _ => ?_))
    exact ⟨a', c', rfl, hS.ext, hS.get 0 rfl, hS.freshAt 0 rfl⟩
def SameN (w : World) (xs ys : List NoteV) : Prop := ∀ (k : Nat) (x y : NoteV), xs[k]? = some x → ys[k]? = some y → x.fro = y.fro ∧ x.life = y.life ∧ x.epoch = y.epoch ∧ x.claim = y.claim ∧ ∃ cs, Slc w 10 encCell (fun _ => True) x.a x.n cs ∧ Slc w 10 encCell (fun _ => True) y.a y.n cs
theorem sameNotes_ok {G : NoteV → Prop} {a b : Option Addr} {n c d : Nat} {xs ys : List NoteV} (hx : Slc w 5 encNV G a n xs) (hy : Slc w 5 encNV G b n ys) (hs : SameN w xs ys) :
    CallC Tryz.prog 35 #[.slice a n c, .slice b n d] w fun v w' => v = .bool true ∧ Ext No w w' := by
  have hmax := hx.max
  refine fn_intro tabOk Tryz.func35 (by kernel_rfl) rfl Tryz.ntmps35 (Nat.le_of_ble_eq_true rfl) ?_
  have hS := St.start w No
  (conv => whnf)
  refine brND (fun h => absurd rfl h) (fun _ => ?_)
  (conv => whnf)
  refine loopR tabOk (fun σ w' q => ∃ k : Nat, σ = [(5, .int .i64 k), (1, .slice b n d), (0, .slice a n c)] ∧ q = n - k ∧ k ≤ n ∧ St w No w' [])
    (σ' := [(5, .int .i64 ((0 : Nat) : Int)), (1, .slice b n d), (0, .slice a n c)]) (n := n) ⟨rfl, rfl, rfl, trivial⟩ ⟨0, rfl, rfl, Nat.zero_le _, hS⟩ ?_
  clear hS
  rintro _ w1 q ⟨k, rfl, rfl, hk, hS⟩
  (conv => whnf)
  refine brD (fun h3 => ?_) (fun h3 => ?_)
  · obtain ⟨b0, o0, ⟨f1, l1, e1, cl1, xa, xn, xc⟩, hxk, _, rfl, _, hc⟩ := hx.at (k := k) (by omega)
    obtain ⟨b1, o1, ⟨f2, l2, e2, cl2, ya, yn, yc⟩, hyk, _, rfl, _, hd⟩ := hy.at (k := k) (by omega)
    obtain ⟨g1, g2, g3, g4, cs, g5, g6⟩ := hs k _ _ hxk hyk
    dsimp only at g1 g2 g3 g4 g5 g6
    subst g1 g2 g3 g4
    (conv => whnf)
    (refine drawS tabOk mixed [] No [0, 1, 2, 3, 4, 5, 6, 7, 8, 9, 10, 11, 12, 13, 14, 15, 16, 17, 18, 19, 20, 21, 22, 23, 24, 25, 26, 27, 28, 29, 30, 31, 32, 33, 34, 35, 36, 37, 38, 39, 40, 41, 42, 43, 44, 45, 46, 47, 48, 49, 50, 51, 52, 53, 54, 55, 56, 57, 58, 59, 60, 61, 62, 63] (by kernel_rfl) ?_; rintro w1 rfl; replace hS := hS.drew)
    repeat' ((conv => whnf); first | refine IdxC.mk (by omega) (by omega) ?_ | refine hS.ldrF (hc.one 0 rfl) id id ?_ | refine hS.ldrF (hc.one 1 rfl) id id ?_ | refine hS.ldrF (hc.one 2 rfl) id id ?_ | refine hS.ldrF (hc.one 3 rfl) id id ?_ | refine hS.ldrF (hc.one 4 rfl) id id ?_ | refine hS.ldrF (hd.one 0 rfl) id id ?_ | refine hS.ldrF (hd.one 1 rfl) id id ?_ | refine hS.ldrF (hd.one 2 rfl) id id ?_ | refine hS.ldrF (hd.one 3 rfl) id id ?_ | refine hS.ldrF (hd.one 4 rfl) id id ?_ | refine brND (fun h => absurd rfl h) (fun _ => ?_))
    obtain rfl : xn = yn := g5.len.symm.trans g6.len
    refine (sameCells_same (g5.no hS.ext) (g6.no hS.ext)).mono ?_
    rintro v w2 ⟨rfl, hx2⟩
    refine KeepC.mk hx2 ?_
    replace hS := hS.no hx2
    (conv => whnf)
    refine RngC.mk (by omega) (by omega) ?_
    (conv => whnf)
    refine LoopE.mk ⟨_, [(5, .int .i64 ((k + 1 : Nat) : Int)), (1, _), (0, _)], ?_, ⟨rfl, rfl, rfl, trivial⟩, ⟨k + 1, rfl, rfl, by omega, hS⟩⟩
    omega
  · obtain rfl : k = n := by omega
    repeat' ((conv => whnf); first | refine RetC.mk ?_ | refine NzC.mk (by decide) ?_ | refine RngC.mk (by omega) (by omega) ?_ | refine IdxC.mk (by omega) (by omega) ?_ | refine brD (fun _ => ?_) (fun _ => ?_) | refine brND (fun _ => ?_) (fun _ => ?_) | refine brN (fun _ => ?_) (fun _ => ?_) | refine brI (fun _ => ?_) (fun _ => ?_))
    exact ⟨rfl, hS.ext⟩
end
end Go.Proofs.YtoaghhcjlfiflaaGreatDoor

namespace Go.Proofs.YtoaghhcjlfiflaaGreatDoor
open Go Ev
theorem Ev.Slc.imp {α : Type} {w : World} {sz n : Nat} {enc : α → List Value} {G G' : α → Prop} {a : Option Addr} {xs : List α} (h : Slc w sz enc G a n xs) (hg : ∀ x, G x → G' x) : Slc w sz enc G' a n xs := ⟨h.len, h.max, h.cells, fun x hx => hg x (h.good x hx)⟩
theorem Ev.St.madeAll {w0 w w' : World} {S : Nat → Prop} {H L : List Ent} (h : St w0 S w H) (hx : Ext No w w') (hL : Has w' L) (hf : ∀ b, inF L b → w.heap.size ≤ b) : St w0 S w' (H ++ L) := by
  have h1 := h.no hx
  refine ⟨h1.ext, ?_, ?_, ?_, ?_⟩
  · intro e he
    rcases List.mem_append.1 he with he | he
    · exact h1.each e he
    · exact hL.each e he
  · intro e he
    rcases List.mem_append.1 he with he | he
    · exact h1.loc e he
    · exact hL.loc e he
  · intro e he b hb
    rcases List.mem_append.1 he with he | he
    · exact h1.may e he b hb
    · exact ⟨.inr (Nat.le_trans h.ext.size (hf b ⟨e, he, hb⟩)), hL.lt e he b hb⟩
  · refine List.pairwise_append.2 ⟨h1.apart, hL.apart, fun e he f hf' b hb hb' => ?_⟩
    have h2 := (h.may e he b hb).2
    have h3 := hf b ⟨f, hf', hb'⟩
    omega
theorem Ev.St.frontOut {w0 w : World} {S : Nat → Prop} {e : Ent} {H : List Ent} (h : St w0 S w (e :: H)) {b : Nat} (hb : b ∈ e.foot) : ¬ inF H b := by
  rintro ⟨f, hf, hbf⟩
  exact (List.pairwise_cons.1 h.apart).1 f hf b hb hbf
theorem Ev.St.rowOut {w0 w : World} {S : Nat → Prop} {e : Ent} {P L R : List Ent} (h : St w0 S w ((e :: P) ++ (L ++ R))) {b : Nat} (hb : b ∈ e.foot) : ¬ inF L b := fun hl => h.frontOut hb (inF_app.2 (.inr (inF_app.2 (.inl hl))))
theorem Ev.St.new_high {w0 w : World} {H : List Ent} (h : St w0 No w H) {b : Nat} (hb : inF H b) : w0.heap.size ≤ b := by
  obtain ⟨e, he, hb⟩ := hb
  exact (h.may e he b hb).1.elim (fun h => h.elim) id
section
variable {w w' : World}
theorem backEvents_ok {G : Int × Int → Prop} {a : Option Addr} {n c : Nat} {xs : List (Int × Int)} (hx : Slc w 2 encEv G a n xs) (hn : n ≤ 2000) :
    CallC Tryz.prog 39 #[.slice a n c] w fun v w' => ∃ a' c', v = .slice a' n c' ∧ Ext No w w' ∧ (ownL 135 2 encEv v xs).holds w' ∧ Fresh w w' v := by
  have hl := hx.len
  refine fn_intro tabOk Tryz.func39 (by kernel_rfl) rfl Tryz.ntmps39 (Nat.le_of_ble_eq_true rfl) ?_
  have hS := (St.start w No).addNil 135 2 encEv
  (conv => whnf)
  refine loopR tabOk (fun σ w' q => ∃ (k : Nat) (a' : Option Addr) (c' : Nat), σ = [(4, .int .i64 k), (3, .slice a' k c'), (0, .slice a n c)] ∧ q = n - k ∧ k ≤ n ∧ St w No w' [ownL 135 2 encEv (.slice a' k c') (xs.take k)])
    (σ' := [(4, .int .i64 ((0 : Nat) : Int)), (3, .slice none 0 0), (0, .slice a n c)]) (n := n) ⟨rfl, rfl, rfl, trivial⟩ ⟨0, none, 0, rfl, rfl, Nat.zero_le _, hS⟩ ?_
  clear hS
  rintro _ w1 q ⟨k, a', c', rfl, rfl, hk, hS⟩
  (conv => whnf)
  refine brD (fun h3 => ?_) (fun h3 => ?_)
  · obtain ⟨b0, o0, x, hxk, _, rfl, hb0, hc⟩ := hx.at (k := k) (by omega)
    have hT : ¬ w.heap.size ≤ b0 := Nat.not_le.2 hb0
    have hlk : (xs.take k).length = k := by rw [List.length_take]; omega
    have hst : xs.take (k + 1) = xs.take k ++ [x] := by rw [List.take_add_one, hxk]; rfl
    (conv => whnf)
    (refine drawS tabOk mixed [] (fun b => w.heap.size ≤ b) [0, 1, 2, 3, 4, 5, 6, 7, 8, 9, 10, 11, 12, 13, 14] (by kernel_rfl) ?_; rintro w1 rfl; replace hS := hS.drew)
    have hK := hS.ref (fun b => w.heap.size ≤ b)
    repeat' ((conv => whnf); first | refine IdxC.mk (by omega) (by omega) ?_ | refine hS.ldrF (hc.one 0 rfl) id hT ?_ | refine hS.ldrF (hc.one 1 rfl) id hT ?_)
    refine hS.litX Tryz.underlying84 (sz := 2) (by kernel_rfl) (z := .agg (encEv (0, 0)).toArray) (by kernel_rfl) rfl rfl (cs := encEv x) (by rfl) (fun b9 w3 hb9 hx3 hS => ?_)
    replace hK := hK.trans hx3.of_no
    refine KeepC.mk hK ?_
    clear hx3
    have hfr := hS.freshAt 0 rfl
    (conv => whnf)
    refine hS.appX codEv 0 (ys := [x]) (G := fun _ => True) Tryz.underlying84 (bytes := 16) (by kernel_rfl) (z := .agg (encEv (0, 0)).toArray) (by kernel_rfl) rfl rfl (Slc.of_blk codEv (hS.blk 1 rfl) rfl (by simp) (fun _ _ => trivial) rfl) (by rw [hlk]; unfold maxLen; omega) (by rw [hlk]; omega) (fun a2 c2 w4 hx4 hS => ?_)
    replace hK := hK.trans (hx4.mono fun q h => (hfr q h).1)
    refine KeepC.mk hK ?_
    clear hx4 hK hfr
    rw [hlk] at hS ⊢
    replace hS := hS.keep 1
    replace hS : St w No w4 [ownL 135 2 encEv (.slice a2 (k + 1) c2) (xs.take (k + 1))] := by rw [hst]; exact hS
    (conv => whnf)
    refine RngC.mk (by omega) (by omega) ?_
    (conv => whnf)
    refine LoopE.mk ⟨_, [(4, .int .i64 ((k + 1 : Nat) : Int)), (3, _), (0, _)], ?_, ⟨rfl, rfl, rfl, trivial⟩, ⟨k + 1, a2, c2, rfl, rfl, by omega, hS⟩⟩
    omega
  · obtain rfl : k = n := by omega
    rw [List.take_of_length_le (by omega)] at hS
    repeat' ((conv => whnf); first | refine RetC.mk ?_ | refine NzC.mk (by decide) ?_ | refine RngC.mk (by omega) (by omega) ?_ | refine IdxC.mk (by omega) (by omega) ?_ | refine brD (fun _ => ?_) (fun _ => ?_) | refine brND (fun _ => ?_) (fun _ => ?_) | refine brN (fun _ => ?_) (fun _ => ?_) | refine brI (fun _ => ?_) (fun _ => ?_))
    exact ⟨a', c', rfl, hS.ext, hS.get 0 rfl, hS.freshAt 0 rfl⟩
theorem neEv {x : Int × Int} {k : Value → Prop} (hk : k (.bool false)) :
    PureC Tryz.prog (do eqGuard .neq 135 (.tmp 0) (.tmp 0) (.agg (encEv x).toArray) (.agg (encEv x).toArray); Go.binOp .neq 135 (.agg (encEv x).toArray) (.agg (encEv x).toArray)) k :=
  neS (a := [.int x.1, .int x.2]) (b := [.int x.1, .int x.2]) (ks := [.int, .int]) (by kernel_rfl) (by kernel_rfl) (by kernel_rfl) rfl rfl (by simpa using hk)
theorem sameEvents_ok {G G' : Int × Int → Prop} {a b : Option Addr} {n c d : Nat} {xs : List (Int × Int)} (hx : Slc w 2 encEv G a n xs) (hy : Slc w 2 encEv G' b n xs) :
    CallC Tryz.prog 38 #[.slice a n c, .slice b n d] w fun v w' => v = .bool true ∧ Ext No w w' := by
  have hmax := hx.max
  refine fn_intro tabOk Tryz.func38 (by kernel_rfl) rfl Tryz.ntmps38 (Nat.le_of_ble_eq_true rfl) ?_
  have hS := St.start w No
  (conv => whnf)
  refine brND (fun h => absurd rfl h) (fun _ => ?_)
  (conv => whnf)
  refine loopR tabOk (fun σ w' q => ∃ k : Nat, σ = [(5, .int .i64 k), (1, .slice b n d), (0, .slice a n c)] ∧ q = n - k ∧ k ≤ n ∧ St w No w' [])
    (σ' := [(5, .int .i64 ((0 : Nat) : Int)), (1, .slice b n d), (0, .slice a n c)]) (n := n) ⟨rfl, rfl, rfl, trivial⟩ ⟨0, rfl, rfl, Nat.zero_le _, hS⟩ ?_
  clear hS
  rintro _ w1 q ⟨k, rfl, rfl, hk, hS⟩
  (conv => whnf)
  refine brD (fun h3 => ?_) (fun h3 => ?_)
  · obtain ⟨b0, o0, x, hxk, _, rfl, _, hc⟩ := hx.at (k := k) (by omega)
    obtain ⟨b1, o1, y, hyk, _, rfl, _, hd⟩ := hy.at (k := k) (by omega)
    obtain rfl : x = y := Option.some.inj (hxk.symm.trans hyk)
    (conv => whnf)
    (refine drawS tabOk mixed [] No [0, 1, 2, 3, 4, 5, 6, 7, 8] (by kernel_rfl) ?_; rintro w1 rfl; replace hS := hS.drew)
    (conv => whnf)
    refine IdxC.mk (by omega) (by omega) ?_
    (conv => whnf)
    refine hS.larF rfl hc id id ?_
    (conv => whnf)
    refine IdxC.mk (by omega) (by omega) ?_
    (conv => whnf)
    refine hS.larF rfl hd id id ?_
    (conv => whnf)
    refine neEv ?_
    (conv => whnf)
    refine RngC.mk (by omega) (by omega) ?_
    (conv => whnf)
    refine LoopE.mk ⟨_, [(5, .int .i64 ((k + 1 : Nat) : Int)), (1, _), (0, _)], ?_, ⟨rfl, rfl, rfl, trivial⟩, ⟨k + 1, rfl, rfl, by omega, hS⟩⟩
    omega
  · obtain rfl : k = n := by omega
    repeat' ((conv => whnf); first | refine RetC.mk ?_ | refine NzC.mk (by decide) ?_ | refine RngC.mk (by omega) (by omega) ?_ | refine IdxC.mk (by omega) (by omega) ?_ | refine brD (fun _ => ?_) (fun _ => ?_) | refine brND (fun _ => ?_) (fun _ => ?_) | refine brN (fun _ => ?_) (fun _ => ?_) | refine brI (fun _ => ?_) (fun _ => ?_))
    exact ⟨rfl, hS.ext⟩
theorem same_cells {w : World} {vs us : List NoteV} {ns : List NoteS} (h : (cellsE vs ns).holds w) (g : (cellsE us ns).holds w) : SameN w vs us := by
  intro k x y hx hy
  obtain ⟨z, hz⟩ : ∃ z, ns[k]? = some z := ⟨_, List.getElem?_eq_getElem (by have := (List.getElem?_eq_some_iff.1 hx).1; rw [h.1] at this; exact this)⟩
  obtain ⟨h1, h2⟩ := cellsE_get h hx hz
  obtain ⟨g1, g2⟩ := cellsE_get g hy hz
  exact ⟨h1.fro.trans g1.fro.symm, h1.life.trans g1.life.symm, h1.epoch.trans g1.epoch.symm, h1.claim.trans g1.claim.symm, z.cells, h2, g2⟩
theorem St.stands {E : Nat → Addr} {m : Nat} {w0 : World} {X : WorldA} {V : WorldS} {P R : List Ent} (hS : St w0 No w (P ++ (worldH X V ++ R))) (hE : Errs w0 E w0.heap.size insErrs) (ok : WOk m V) : Stands E w0.heap.size m w X V :=
  ⟨hS.has.right.left, ok, hE.ext hS.ext fun _ h => h.elim, fun _ hb => hS.new_high (inF_app.2 (.inr (inF_app.2 (.inl hb))))⟩
theorem handle_lt (h : Handle w) : 11 < w.heap.size := cell_lt h
theorem codes_of {E : Nat → Addr} {w0 : World} (hE : Errs w0 E w0.heap.size allErrs) (hh : Handle w0) (hx : Ext No w0 w) : Codes E w0.heap.size w := ⟨hE.ext hx fun _ h => h.elim, hh.ext hx, handle_lt hh⟩
theorem ownL_cap {α : Type} {e : TypeId} {sz n c : Nat} {enc : α → List Value} {a : Option Addr} {xs : List α} (h : (ownL e sz enc (.slice a n c) xs).holds w) : n ≤ c := by
  rcases own_blk h with ⟨_, h1, _, h2, _⟩ | ⟨_, _, _, h1, _, h2, _⟩
  · omega
  · omega
theorem Ev.St.rowFirst {α : Type} {w0 w : World} {S : Nat → Prop} {H : List Ent} (h : St w0 S w H) (e : TypeId) (sz : Nat) (enc : α → List Value) : St w0 S w ([ownL e sz enc (.slice none 0 0) []] ++ H) := (h.addNil e sz enc).perm List.perm_append_comm
theorem dec_ruleW {d : Nat} (hd : 10 ≤ d) : Dec Tryz.prog w d 92 encRule (fun _ => True) := by
  intro cs h
  have h1 : flatK Tryz.prog 10 92 = some [.bool, .bool, .int, .int, .int] := by kernel_rfl
  have h2 : Tryz.prog.cellsOf 92 = 5 := by kernel_rfl
  obtain ⟨ps, rfl, hk, hok⟩ := shp_flat 10 d _ _ cs h1 hd h2 h
  obtain ⟨p1, r, rfl, g1, hk⟩ := kinds_cons hk
  obtain ⟨p2, r, rfl, g2, hk⟩ := kinds_cons hk
  obtain ⟨p3, r, rfl, g3, hk⟩ := kinds_cons hk
  obtain ⟨p4, r, rfl, g4, hk⟩ := kinds_cons hk
  obtain ⟨p5, r, rfl, g5, hk⟩ := kinds_cons hk
  obtain rfl := kinds_nil hk
  obtain ⟨n1, rfl⟩ := k_bool g1
  obtain ⟨n2, rfl⟩ := k_bool g2
  obtain ⟨n3, rfl⟩ := k_int g3
  obtain ⟨n4, rfl⟩ := k_int g4
  obtain ⟨n5, rfl⟩ := k_int g5
  exact ⟨⟨n1, n2, n3, n4, n5⟩, rfl, trivial⟩
end
end Go.Proofs.YtoaghhcjlfiflaaGreatDoor

namespace Go.Proofs.YtoaghhcjlfiflaaGreatDoor
open Go Ev
section
variable {w w' w0 : World} {Y : RWorldA} {W : WorldS} {R : RBys} {m j : Nat}
def RWorldA.off (Y : RWorldA) (la : Option Addr) (lc : Nat) (i : Nat) : RWorldA := { Y with la := la, lc := lc, vs := Y.vs.eraseIdx i }
def rgotH (Y : RWorldA) (W : WorldS) (i : Nat) (la : Option Addr) (lc : Nat) (np bp : List (Option Addr)) : List Ent := [blk Y.w 123 (encRW (Y.off la lc i) (W.off i)), ownL 126 1 encP (.slice Y.na 2 Y.nc) np, ownL 124 1 encP (.slice Y.ba 2 Y.bc) bp, ownL 134 5 encNV (.slice la (W.fly.eraseIdx i).length lc) (Y.vs.eraseIdx i), cellsE Y.vs W.fly, ownL 135 2 encEv (.slice Y.ea W.events.length Y.ec) W.events]
theorem St.rgotOff {w0 w : World} {S : Nat → Prop} {i : Nat} {la : Option Addr} {lc : Nat} {np bp : List (Option Addr)} {B : List Ent} (hS : St w0 S w (rgotH Y W i la lc np bp ++ B)) : St w0 S w (rfixH (Y.off la lc i) (W.off i) np bp ++ B) := by
  have hc1 : (cellsE Y.vs W.fly).holds w := hS.get 4 rfl
  exact hS.upd 4 rfl (T := No) (Ext.refl _ _) (fun _ h => h.elim) cellsE_local (cellsE_erase hc1 i) (fun b hb => .inl (erase_foot hb))
theorem RTurns.fixed (h : Has w (rworldH Y W R)) {Y' : RWorldA} {W' : WorldS} (k : Turns w w' (rfixH Y W [rnodeP Y.a W.a, rnodeP Y.b W.b] [byP Y.a, byP Y.b]) (rfixH Y' W' [rnodeP Y.a W.a, rnodeP Y.b W.b] [byP Y.a, byP Y.b])) (ha : Y'.a = Y.a) (hb : Y'.b = Y.b) (ka : W'.a = W.a) (kb : W'.b = W.b) : Turns w w' (rworldH Y W R) (rworldH Y' W' R) := by
  unfold rworldH
  rw [ha, hb, ka, kb]
  exact Turns.frame h k
theorem rtake_bad (k : Int) (h : RStands w0 m j w Y W R) (hk : W.at_ k ≠ 0) : CallC Tryz.prog 120 #[.pointer (some ⟨Y.w, 0, none⟩), .int .i64 k] w fun v w' => v = .tuple #[.agg (encNV noNV).toArray, .bool false] ∧ Ext No w w' := by
  have hb : k < 0 ∨ k ≥ W.fly.length := by
    unfold WorldS.at_ at hk
    refine Classical.byContradiction fun h => hk (if_neg h)
  have hW := h.has.start
  refine fn_intro tabOk Tryz.func120 (by kernel_rfl) rfl Tryz.ntmps120 (Nat.le_of_ble_eq_true rfl) ?_
  have hS := St.start w No
  (conv => whnf)
  refine hS.new (fun b4 w1 hb4 hS => ?_)
  have hld := (h.has.read hS.ext).start
  (conv => whnf)
  refine brD (fun h1 => ?_) (fun h1 => ?_)
  · (conv => whnf)
    refine hS.st 0 rfl (Nat.le_of_ble_eq_true rfl) rfl (fun w' hS => ?_)
    (conv => whnf)
    refine hS.laX 0 rfl rfl ?_
    repeat' ((conv => whnf); first | refine RetC.mk ?_ | refine NzC.mk (by decide) ?_ | refine RngC.mk (by omega) (by omega) ?_ | refine IdxC.mk (by omega) (by omega) ?_ | refine brD (fun _ => ?_) (fun _ => ?_) | refine brND (fun _ => ?_) (fun _ => ?_) | refine brN (fun _ => ?_) (fun _ => ?_) | refine brI (fun _ => ?_) (fun _ => ?_))
    exact ⟨rfl, hS.ext⟩
  · (conv => whnf)
    refine hld.ld 0 rfl rfl ?_
    (conv => whnf)
    refine brD (fun h2 => ?_) (fun h2 => by omega)
    (conv => whnf)
    refine hS.st 0 rfl (Nat.le_of_ble_eq_true rfl) rfl (fun w' hS => ?_)
    (conv => whnf)
    refine hS.laX 0 rfl rfl ?_
    repeat' ((conv => whnf); first | refine RetC.mk ?_ | refine NzC.mk (by decide) ?_ | refine RngC.mk (by omega) (by omega) ?_ | refine IdxC.mk (by omega) (by omega) ?_ | refine brD (fun _ => ?_) (fun _ => ?_) | refine brND (fun _ => ?_) (fun _ => ?_) | refine brN (fun _ => ?_) (fun _ => ?_) | refine brI (fun _ => ?_) (fun _ => ?_))
    exact ⟨rfl, hS.ext⟩
theorem rtake_ok {np bp : List (Option Addr)} {i : Nat} {x : NoteV} (hH : Has w (rfixH Y W np bp)) (hi : i < W.fly.length) (hm : W.fly.length ≤ 200) (hx : Y.vs[i]? = some x) : CallC Tryz.prog 120 #[.pointer (some ⟨Y.w, 0, none⟩), .int .i64 (i : Int)] w fun v w' => v = .tuple #[.agg (encNV x).toArray, .bool true] ∧ ∃ la lc, Turns w w' (rfixH Y W np bp) (rgotH Y W i la lc np bp) := by
  have hl : Y.vs.length = W.fly.length := (hH.get 4 rfl : (cellsE Y.vs W.fly).holds w).1
  have hrow := ownL_slc (G := fun _ => True) codNote (hH.get 3 rfl) (fun _ _ => trivial)
  have hcap := ownL_cap (hH.get 3 rfl)
  obtain ⟨b0, o0, hfa, _⟩ := hrow.cells i x hx
  have hS := hH.start
  have hlt : (Y.vs.take i).length = i := by rw [List.length_take]; omega
  have hle : (Y.vs.eraseIdx i) = Y.vs.take i ++ Y.vs.drop (i + 1) := List.eraseIdx_eq_take_drop_succ _ _
  have hln : (W.fly.eraseIdx i).length = i + (W.fly.length - (i + 1)) := by rw [List.length_eraseIdx, if_pos hi]; omega
  refine fn_intro tabOk Tryz.func120 (by kernel_rfl) rfl Tryz.ntmps120 (Nat.le_of_ble_eq_true rfl) ?_
  (conv => whnf)
  refine hS.new (fun b4 w1 hb4 hS => ?_)
  (conv => whnf)
  refine hS.ld 0 rfl rfl ?_
  (conv => whnf)
  refine brD (fun h2 => absurd h2 (by omega)) (fun h2 => ?_)
  (conv => whnf)
  refine hS.ld 0 rfl (v := .slice (some ⟨b0, o0, none⟩) W.fly.length Y.lc) (by rw [← hfa]; rfl) ?_
  (conv => whnf)
  refine IdxC.mk (by omega) (by omega) ?_
  (conv => whnf)
  refine hS.ldRow codNote 3 (by rw [← hfa]; rfl) hx rfl ?_
  (conv => whnf)
  refine hS.new (fun b6 w2 hb6 hS => ?_)
  (conv => whnf)
  refine hS.st 7 rfl (Nat.le_of_ble_eq_true rfl) rfl (fun w3 hS => ?_)
  replace hS := hS.addNil 134 5 encNV
  (conv => whnf)
  refine hS.ld 0 rfl rfl ?_
  (conv => whnf)
  refine slcHead (ownL_slc (G := fun _ => True) codNote (hS.get 3 rfl) (fun _ _ => trivial)) hcap Tryz.underlying79 (by kernel_rfl) rfl (by omega) (fun a5 c5 hx5 => ?_)
  (conv => whnf)
  refine hS.appS codNote 8 (xs := []) Tryz.underlying79 (bytes := 56) (by kernel_rfl) (z := .agg (encNV noNV).toArray) (by kernel_rfl) rfl rfl hx5 (by unfold maxLen; simp; omega) (by simp; omega) (fun a6 c6 w6 hS => ?_)
  rw [show ([] : List NoteV).length + i = i by simp] at hS ⊢
  (conv => whnf)
  refine hS.ld 0 rfl rfl ?_
  (conv => whnf)
  refine RngC.mk (by omega) (by omega) ?_
  (conv => whnf)
  refine slcTail (j := i + 1) (ownL_slc (G := fun _ => True) codNote (hS.get 3 rfl) (fun _ _ => trivial)) hcap Tryz.underlying79 (by kernel_rfl) (by kernel_rfl) (by omega) (by omega) (fun a7 c7 hx7 hc7 => ?_)
  (conv => whnf)
  refine hS.appS codNote 8 Tryz.underlying79 (bytes := 56) (by kernel_rfl) (z := .agg (encNV noNV).toArray) (by kernel_rfl) rfl rfl hx7 (by simp only [List.nil_append]; rw [hlt]; unfold maxLen; omega) (by simp only [List.nil_append]; rw [hlt]; omega) (fun a8 c8 w8 hS => ?_)
  simp only [List.nil_append] at hS ⊢
  rw [hlt, ← hln, ← hle] at hS
  rw [hlt, ← hln]
  (conv => whnf)
  refine hS.st 0 rfl (by exact Nat.le_of_ble_eq_true rfl) rfl (fun w9 hS => ?_)
  (conv => whnf)
  refine hS.laX 7 rfl rfl ?_
  (conv => whnf)
  refine hS.st 6 rfl (by exact Nat.le_of_ble_eq_true rfl) rfl (fun w10 hS => ?_)
  (conv => whnf)
  refine hS.laX 6 rfl rfl ?_
  repeat' ((conv => whnf); first | refine RetC.mk ?_ | refine NzC.mk (by decide) ?_ | refine RngC.mk (by omega) (by omega) ?_ | refine IdxC.mk (by omega) (by omega) ?_ | refine brD (fun _ => ?_) (fun _ => ?_) | refine brND (fun _ => ?_) (fun _ => ?_) | refine brN (fun _ => ?_) (fun _ => ?_) | refine brI (fun _ => ?_) (fun _ => ?_))
  refine ⟨rfl, a8, c8, ?_⟩
  exact St.turns (hS.sel [0, 1, 2, 8, 4, 5] (by decide))
theorem rwdrop_ok (k : Int) (h : RStands w0 m j w Y W R) : CallC Tryz.prog 75 #[.pointer (some ⟨Y.w, 0, none⟩), .int .i64 k] w fun v w' => v = .int .i64 ((W.drop k).1 : Nat) ∧ RDoes w0 m j w Y W R (W.drop k).2 w' := by
  by_cases hu : W.at_ k = 0
  case neg =>
    have h4 : W.at_ k = 4 := by
      unfold WorldS.at_ at hu ⊢
      split at hu
      · rename_i h1
        rw [if_pos h1]
      · exact absurd rfl hu
    rw [show W.drop k = (W.at_ k, W) from if_pos hu, h4]
    refine fn_intro tabOk Tryz.func75 (by kernel_rfl) rfl Tryz.ntmps75 (Nat.le_of_ble_eq_true rfl) ?_
    have hS := St.start w No
    (conv => whnf)
    refine (rtake_bad k h hu).mono ?_
    rintro v w1 ⟨rfl, hx⟩
    replace hS := hS.no hx
    (conv => whnf)
    refine hS.new (fun b1 w2 hb1 hS => ?_)
    (conv => whnf)
    refine hS.st 0 rfl (Nat.le_of_ble_eq_true rfl) rfl (fun w' hS => ?_)
    repeat' ((conv => whnf); first | refine RetC.mk ?_ | refine NzC.mk (by decide) ?_ | refine RngC.mk (by omega) (by omega) ?_ | refine IdxC.mk (by omega) (by omega) ?_ | refine brD (fun _ => ?_) (fun _ => ?_) | refine brND (fun _ => ?_) (fun _ => ?_) | refine brN (fun _ => ?_) (fun _ => ?_) | refine brI (fun _ => ?_) (fun _ => ?_))
    exact ⟨rfl, RDoes.same h (Nat.le_refl _) (Nat.le_refl _) hS.ext⟩
  rw [show W.drop k = (0, W.off k) from if_neg (fun h => h hu)]
  obtain ⟨i, rfl, hi⟩ := at_in hu
  have hl : Y.vs.length = W.fly.length := (h.has.get 4 rfl : (cellsE Y.vs W.fly).holds w).1
  obtain ⟨x, hx⟩ : ∃ x, Y.vs[i]? = some x := ⟨_, List.getElem?_eq_getElem (by omega)⟩
  refine fn_intro tabOk Tryz.func75 (by kernel_rfl) rfl Tryz.ntmps75 (Nat.le_of_ble_eq_true rfl) ?_
  (conv => whnf)
  refine (rtake_ok h.has.left hi h.ok.fly hx).mono ?_
  rintro v w1 ⟨rfl, la, lc, hk⟩
  have hS := (h.has.left.start.turned hk)
  (conv => whnf)
  refine hS.new (fun b1 w2 hb1 hS => ?_)
  (conv => whnf)
  refine hS.st 6 rfl (Nat.le_of_ble_eq_true rfl) rfl (fun w' hS => ?_)
  repeat' ((conv => whnf); first | refine RetC.mk ?_ | refine NzC.mk (by decide) ?_ | refine RngC.mk (by omega) (by omega) ?_ | refine IdxC.mk (by omega) (by omega) ?_ | refine brD (fun _ => ?_) (fun _ => ?_) | refine brND (fun _ => ?_) (fun _ => ?_) | refine brN (fun _ => ?_) (fun _ => ?_) | refine brI (fun _ => ?_) (fun _ => ?_))
  have hk2 := RTurns.fixed h.has (Y' := Y.off la lc i) (W' := W.off i) (St.turns (St.rgotOff (B := []) (hS.keep 6))) rfl rfl rfl rfl
  exact ⟨rfl, Y.off la lc i, R, rfl, hk2, h.turns hk2 (h.ok.off i) h.rules h.a h.b⟩
theorem hear_rules (N : NodeS) (x : NoteS) : (N.hear x).2.rules = N.rules := by
  unfold NodeS.hear
  repeat' split
  all_goals rfl
set_option maxHeartbeats 1000000 in
theorem rwdeliver_ok (k : Int) (h : RStands w0 m j w Y W R) : CallC Tryz.prog 78 #[.pointer (some ⟨Y.w, 0, none⟩), .int .i64 k] w fun v w' => v = .int .i64 ((W.deliver k).1 : Nat) ∧ RDoes w0 m j w Y W R (W.deliver k).2 w' := by
  by_cases hu : W.at_ k = 0
  case neg =>
    have h4 : W.at_ k = 4 := by
      unfold WorldS.at_ at hu ⊢
      split at hu
      · rename_i h1
        rw [if_pos h1]
      · exact absurd rfl hu
    rw [show W.deliver k = (W.at_ k, W) from if_pos hu, h4]
    refine fn_intro tabOk Tryz.func78 (by kernel_rfl) rfl Tryz.ntmps78 (Nat.le_of_ble_eq_true rfl) ?_
    have hS := St.start w No
    (conv => whnf)
    refine (rtake_bad k h hu).mono ?_
    rintro v w1 ⟨rfl, hx⟩
    replace hS := hS.no hx
    (conv => whnf)
    refine hS.new (fun b1 w2 hb1 hS => ?_)
    (conv => whnf)
    refine hS.st 0 rfl (Nat.le_of_ble_eq_true rfl) rfl (fun w' hS => ?_)
    repeat' ((conv => whnf); first | refine RetC.mk ?_ | refine NzC.mk (by decide) ?_ | refine RngC.mk (by omega) (by omega) ?_ | refine IdxC.mk (by omega) (by omega) ?_ | refine brD (fun _ => ?_) (fun _ => ?_) | refine brND (fun _ => ?_) (fun _ => ?_) | refine brN (fun _ => ?_) (fun _ => ?_) | refine brI (fun _ => ?_) (fun _ => ?_))
    exact ⟨rfl, RDoes.same h (Nat.le_refl _) (Nat.le_refl _) hS.ext⟩
  obtain ⟨i, rfl, hi⟩ := at_in hu
  have hflen := h.ok.fly
  have hc : (cellsE Y.vs W.fly).holds w := h.has.get 4 rfl
  have hl : Y.vs.length = W.fly.length := hc.1
  obtain ⟨x, hxi⟩ : ∃ x, Y.vs[i]? = some x := ⟨_, List.getElem?_eq_getElem (by omega)⟩
  obtain ⟨y, hyi⟩ : ∃ y, W.fly[i]? = some y := ⟨_, List.getElem?_eq_getElem (by omega)⟩
  obtain ⟨hxy, hsl⟩ := cellsE_get hc hxi hyi
  obtain ⟨hyf, hyl⟩ := h.ok.notes y (List.mem_of_getElem? hyi)
  have hw : W.deliver i = (0, (W.off i).got y) := by
    unfold WorldS.deliver
    rw [if_neg (fun h => h hu)]
    show (match W.fly[(i : Int).toNat]? with | none => _ | some x => _) = _
    rw [Int.toNat_natCast, hyi]
  have hok := h.ok.deliver i
  rw [hw] at hok ⊢
  clear hc hsl hw hu
  cases hcl : y.claim
  case true =>
    have hxc : x.claim = true := hxy.claim.trans hcl
    have hxe := hxy.epoch
    have hxf := hxy.fro
    have e1 : (W.off (i : Int)).epoch = W.epoch := rfl
    have e2 : (W.off (i : Int)).to = W.to := rfl
    have hg1 : y.epoch > W.epoch ∨ W.to < 0 → (W.off i).got y = { W.off i with to := x.fro, epoch := x.epoch } := fun h => by
      unfold WorldS.got
      rw [if_pos hcl, hxe, hxf]
      exact if_pos h
    have hg2 : ¬ (y.epoch > W.epoch ∨ W.to < 0) → (W.off i).got y = W.off i := fun h => by
      unfold WorldS.got
      rw [if_pos hcl]
      exact if_neg h
    have hfin : ∀ {w' : World} {W' : WorldS} {la : Option Addr} {lc : Nat}, WOk m W' → W'.a = W.a → W'.b = W.b → W'.rules = W.rules → Turns w w' (rfixH Y W [rnodeP Y.a W.a, rnodeP Y.b W.b] [byP Y.a, byP Y.b]) (rfixH (Y.off la lc i) W' [rnodeP Y.a W.a, rnodeP Y.b W.b] [byP Y.a, byP Y.b]) → RDoes w0 m j w Y W R W' w' := fun {w'} {W'} {la} {lc} ok ha hb hr k => by
      have hk2 := RTurns.fixed h.has (Y' := Y.off la lc i) k rfl rfl ha hb
      refine ⟨Y.off la lc i, R, rfl, hk2, h.turns hk2 ok ?_ ?_ ?_⟩
      · rw [hr]
        exact h.rules
      · rw [ha]
        exact h.a
      · rw [hb]
        exact h.b
    refine fn_intro tabOk Tryz.func78 (by kernel_rfl) rfl Tryz.ntmps78 (Nat.le_of_ble_eq_true rfl) ?_
    (conv => whnf)
    refine (rtake_ok h.has.left hi h.ok.fly hxi).mono ?_
    rintro v w1 ⟨rfl, la, lc, hk⟩
    have hS := (h.has.left.start.turned hk)
    clear hk
    (conv => whnf)
    refine hS.new (fun b1 w2 hb1 hS => ?_)
    (conv => whnf)
    refine hS.st 6 rfl (Nat.le_of_ble_eq_true rfl) rfl (fun w3 hS => ?_)
    (conv => whnf)
    refine hS.ld 6 rfl (v := .bool true) (by rw [← hxc]; rfl) ?_
    (conv => whnf)
    (refine drawS tabOk mixed [] No [0, 1, 2, 3, 4, 5, 6, 7, 8, 9, 10, 11, 12, 13] (by kernel_rfl) ?_; rintro w1 rfl; replace hS := hS.drew)
    repeat' ((conv => whnf); first | refine RetC.mk ?_ | refine NzC.mk (by decide) ?_ | refine RngC.mk (by omega) (by omega) ?_ | refine IdxC.mk (by omega) (by omega) ?_ | refine hS.ldF 6 rfl rfl id ?_ | refine hS.ldF 0 rfl rfl id ?_ | refine brD (fun _ => ?_) (fun _ => ?_) | refine brND (fun _ => ?_) (fun _ => ?_) | refine brN (fun _ => ?_) (fun _ => ?_) | refine brI (fun _ => ?_) (fun _ => ?_))
    all_goals first
      | (rw [hg2 (by omega)] at hok ⊢; exact ⟨rfl, hfin hok rfl rfl rfl (St.turns (St.rgotOff (B := []) (hS.keep 6)))⟩)
      | (rw [hg1 (by omega)] at hok ⊢
         repeat' ((conv => whnf); first | refine RetC.mk ?_ | refine NzC.mk (by decide) ?_ | refine RngC.mk (by omega) (by omega) ?_ | refine IdxC.mk (by omega) (by omega) ?_ | refine hS.ld 6 rfl rfl ?_ | (refine hS.st 0 rfl (by exact Nat.le_of_ble_eq_true rfl) rfl (fun w' hS => ?_)) | refine brD (fun _ => ?_) (fun _ => ?_) | refine brND (fun _ => ?_) (fun _ => ?_) | refine brN (fun _ => ?_) (fun _ => ?_) | refine brI (fun _ => ?_) (fun _ => ?_))
         exact ⟨rfl, hfin hok rfl rfl rfl (St.turns (St.rgotOff (W := { W with to := x.fro, epoch := x.epoch }) (B := []) (hS.keep 6)))⟩)
  case false =>
    have hxc : x.claim = false := hxy.claim.trans hcl
    have hn : 1 - y.fro = 0 ∨ 1 - y.fro = 1 := by omega
    have hxf := hxy.fro
    have hsd := h.side hn
    have hT : ∀ {w'} {la : Option Addr} {lc : Nat} {A : RNodeA} {s : SideS}, ((W.off i).got y) = (W.off i).setSide (1 - y.fro) s → RSide w0 j A s (R.side (1 - y.fro)) → Turns w w' (rhalfH Y W R (1 - y.fro)) (rfixH (Y.off la lc i) (W.off i) (two (1 - y.fro) (rnodeP A s) (rnodeP (Y.side (1 - (1 - y.fro))) (W.side (1 - (1 - y.fro))))) (two (1 - y.fro) (byP A) (byP (Y.side (1 - (1 - y.fro))))) ++ rsideH A s (R.side (1 - y.fro))) → RDoes w0 m j w Y W R ((W.off i).got y) w' := by
      intro w' la lc A s hg hs k
      have h1 := rhalf_set (Y := Y.off la lc i) (W := W.off i) (R := R) hn A s (R.side (1 - y.fro))
      have h2 : R.setSide (1 - y.fro) (R.side (1 - y.fro)) = R := by rcases hn with e | e <;> (rw [e]; rfl)
      rw [h2] at h1
      have hyl2 : (Y.off la lc i).side (1 - (1 - y.fro)) = Y.side (1 - (1 - y.fro)) := rfl
      have hwl2 : (W.off i).side (1 - (1 - y.fro)) = W.side (1 - (1 - y.fro)) := rfl
      rw [hyl2, hwl2] at h1
      rw [← h1] at k
      have hk2 := RTurns.world hn h.has (Y' := (Y.off la lc i).setSide (1 - y.fro) A) (W' := (W.off i).setSide (1 - y.fro) s) (R' := R) k (rside_set (Y := Y.off la lc i) (R := R) hn A s (R.side (1 - y.fro))).2.1 (by rcases hn with e | e <;> (rw [e]; rfl)) rfl
      rw [hg] at hok ⊢
      refine ⟨(Y.off la lc i).setSide (1 - y.fro) A, R, by rcases hn with e | e <;> (rw [e]; rfl), hk2, ?_⟩
      generalize 1 - y.fro = z at *
      rcases hn with rfl | rfl
      · exact h.turns hk2 hok h.rules hs h.b
      · exact h.turns hk2 hok h.rules h.a hs
    have hS := (h.half hn).start
    cases hN : (W.side (1 - y.fro)).node with
    | none =>
      have hg : (W.off i).got y = (W.off i).setSide (1 - y.fro) (W.side (1 - y.fro)) := by
        have e : (W.off i).got y = W.off i := by
          unfold WorldS.got
          rw [if_neg (by rw [hcl]; decide), if_neg (by omega)]
          show (match (W.side (1 - y.fro)).node with | none => _ | some N => _) = _
          rw [hN]
        rw [e]
        rcases hn with e | e <;> (rw [e]; rfl)
      have hU : ∀ {w'} {la : Option Addr} {lc : Nat}, St w (inF (rhalfH Y W R (1 - y.fro))) w' (rfixH (Y.off la lc i) (W.off i) (two (1 - y.fro) none (rnodeP (Y.side (1 - (1 - y.fro))) (W.side (1 - (1 - y.fro))))) (two (1 - y.fro) (byP (Y.side (1 - y.fro))) (byP (Y.side (1 - (1 - y.fro))))) ++ [blk (Y.side (1 - y.fro)).b 171 (encRB (R.side (1 - y.fro)))]) → RDoes w0 m j w Y W R ((W.off i).got y) w' := fun {w'} {la} {lc} k => by
        refine hT (la := la) (lc := lc) (A := Y.side (1 - y.fro)) hg hsd ?_
        rw [rnodeP_none hN, rsideH_none hN]
        exact St.turns k
      generalize hSS : inF (rhalfH Y W R (1 - y.fro)) = S at hS hU
      rw [rhalf_down hN] at hS
      obtain ⟨gn, hgn⟩ := two_own (hS.get 1 rfl)
      refine fn_intro tabOk Tryz.func78 (by kernel_rfl) rfl Tryz.ntmps78 (Nat.le_of_ble_eq_true rfl) ?_
      (conv => whnf)
      refine (rtake_ok hS.has.left hi h.ok.fly hxi).mono ?_
      rintro v w1 ⟨rfl, la, lc, hk⟩
      replace hS := St.call (B := [_]) hS hk
      clear hk
      (conv => whnf)
      refine hS.new (fun b1 w2 hb1 hS => ?_)
      (conv => whnf)
      refine hS.st 7 rfl (Nat.le_of_ble_eq_true rfl) rfl (fun w3 hS => ?_)
      (conv => whnf)
      refine hS.ld 7 rfl (v := .bool false) (by rw [← hxc]; rfl) ?_
      (conv => whnf)
      (refine drawS tabOk mixed [] No [0, 1, 2, 3, 4, 5, 6, 7, 8, 9] (by kernel_rfl) ?_; rintro w1 rfl; replace hS := hS.drew)
      (conv => whnf)
      refine hS.ldF 0 rfl (v := .slice (some ⟨gn, 0, none⟩) 2 Y.nc) (by rw [← hgn]; rfl) id ?_
      (conv => whnf)
      refine hS.ldF 7 rfl (v := .int .i64 y.fro) (by rw [← hxf]; rfl) id ?_
      (conv => whnf)
      refine RngC.mk (by omega) (by omega) ?_
      (conv => whnf)
      refine IdxC.mk (by omega) (by omega) ?_
      (conv => whnf)
      refine hS.ldTwoF 1 hn (by rw [← hgn]; rfl) rfl id ?_
      repeat' ((conv => whnf); first | refine RetC.mk ?_ | refine NzC.mk (by decide) ?_ | refine RngC.mk (by omega) (by omega) ?_ | refine IdxC.mk (by omega) (by omega) ?_ | refine brD (fun _ => ?_) (fun _ => ?_) | refine brND (fun _ => ?_) (fun _ => ?_) | refine brN (fun _ => ?_) (fun _ => ?_) | refine brI (fun _ => ?_) (fun _ => ?_))
      exact ⟨rfl, hU (St.rgotOff (B := [_]) (hS.keep 7))⟩
    | some N =>
      have hnk := ((h.ok.side hn).node N hN).1
      have hg : (W.off i).got y = (W.off i).setSide (1 - y.fro) ⟨some (N.hear y).2, (W.side (1 - y.fro)).byt⟩ := by
        unfold WorldS.got
        rw [if_neg (by rw [hcl]; decide), if_neg (by omega)]
        show (match (W.side (1 - y.fro)).node with | none => _ | some N => _) = _
        rw [hN]
        rfl
      have hrl := hsd.rules N hN
      have hrls := hear_rules N y
      have hU : ∀ {w'} {la : Option Addr} {lc : Nat} {A : RNodeA}, A.n = (Y.side (1 - y.fro)).n → A.b = (Y.side (1 - y.fro)).b → A.ra = (Y.side (1 - y.fro)).ra → St w (inF (rhalfH Y W R (1 - y.fro))) w' (rfixH (Y.off la lc i) (W.off i) (two (1 - y.fro) (some ⟨(Y.side (1 - y.fro)).n, 0, none⟩) (rnodeP (Y.side (1 - (1 - y.fro))) (W.side (1 - (1 - y.fro))))) (two (1 - y.fro) (byP (Y.side (1 - y.fro))) (byP (Y.side (1 - (1 - y.fro))))) ++ rnodeH A (N.hear y).2 (R.side (1 - y.fro))) → RDoes w0 m j w Y W R ((W.off i).got y) w' := fun {w'} {la} {lc} {A} h1 h2 h3 k => by
        refine hT (la := la) (lc := lc) (A := A) (s := ⟨some (N.hear y).2, (W.side (1 - y.fro)).byt⟩) hg ⟨hsd.alike, hsd.rok, fun M hM => ?_⟩ ?_
        · obtain rfl := Option.some.inj hM
          rw [hrls, h3]
          exact hrl
        · have := St.turns k
          rw [← h1, show byP (Y.side (1 - y.fro)) = byP A by unfold byP; rw [h2]] at this
          exact this
      generalize hSS : inF (rhalfH Y W R (1 - y.fro)) = S at hS hU
      rw [rhalf_up hN] at hS
      obtain ⟨gn, hgn⟩ := two_own (hS.get 1 rfl)
      refine fn_intro tabOk Tryz.func78 (by kernel_rfl) rfl Tryz.ntmps78 (Nat.le_of_ble_eq_true rfl) ?_
      (conv => whnf)
      refine (rtake_ok hS.has.left hi h.ok.fly hxi).mono ?_
      rintro v w1 ⟨rfl, la, lc, hk⟩
      replace hS := St.call (B := rnodeH (Y.side (1 - y.fro)) N (R.side (1 - y.fro))) hS hk
      clear hk
      (conv => whnf)
      refine hS.new (fun b1 w2 hb1 hS => ?_)
      (conv => whnf)
      refine hS.st 13 rfl (Nat.le_of_ble_eq_true rfl) rfl (fun w3 hS => ?_)
      (conv => whnf)
      refine hS.ld 13 rfl (v := .bool false) (by rw [← hxc]; rfl) ?_
      (conv => whnf)
      (refine drawS tabOk mixed [] No [0, 1, 2, 3, 4, 5, 6, 7, 8, 9] (by kernel_rfl) ?_; rintro w1 rfl; replace hS := hS.drew)
      (conv => whnf)
      refine hS.ldF 0 rfl (v := .slice (some ⟨gn, 0, none⟩) 2 Y.nc) (by rw [← hgn]; rfl) id ?_
      (conv => whnf)
      refine hS.ldF 13 rfl (v := .int .i64 y.fro) (by rw [← hxf]; rfl) id ?_
      (conv => whnf)
      refine RngC.mk (by omega) (by omega) ?_
      (conv => whnf)
      refine IdxC.mk (by omega) (by omega) ?_
      (conv => whnf)
      refine hS.ldTwoF 1 hn (by rw [← hgn]; rfl) rfl id ?_
      have hs0 := hS.notin 0 6 7 rfl (List.mem_singleton.2 rfl) (.inl (by decide))
      have hs1 := hS.notin 1 6 7 (b := gn) rfl (foot_own (by rw [hgn]; rfl)) (.inl (by decide))
      have hp := hS.notin 13 6 7 rfl (List.mem_singleton.2 rfl) (.inr (by decide))
      have hsrc : 0 < x.n → ∀ b0 o0, x.a = some ⟨b0, o0, none⟩ → ¬ inF (rnodeH (Y.side (1 - y.fro)) N (R.side (1 - y.fro))) b0 := fun h0 b0 o0 ha => hS.notin 4 6 7 (e := cellsE Y.vs W.fly) rfl (cellsE_foot.2 ⟨x, List.mem_of_getElem? hxi, footN_at h0 ha⟩) (.inl (by decide))
      (conv => whnf)
      (refine drawS tabOk mixed [] (inF (rnodeH (Y.side (1 - y.fro)) N (R.side (1 - y.fro)))) [0, 1, 2, 3, 4, 5, 6, 7, 8, 9, 10] (by kernel_rfl) ?_; rintro w1 rfl; replace hS := hS.drew)
      (conv => whnf)
      refine hS.ldF 0 rfl (v := .slice (some ⟨gn, 0, none⟩) 2 Y.nc) (by rw [← hgn]; rfl) hs0 ?_
      (conv => whnf)
      refine hS.ldF 13 rfl (v := .int .i64 y.fro) (by rw [← hxf]; rfl) hp ?_
      (conv => whnf)
      refine RngC.mk (by omega) (by omega) ?_
      (conv => whnf)
      refine IdxC.mk (by omega) (by omega) ?_
      (conv => whnf)
      refine hS.ldTwoF 1 hn (by rw [← hgn]; rfl) rfl hs1 ?_
      (conv => whnf)
      refine hS.laXF 13 rfl rfl hp ?_
      (conv => whnf)
      have hw3 : Has _ (rnodeH (Y.side (1 - y.fro)) N (R.side (1 - y.fro))) := Has.left (B := [_]) (Has.right (A := [_, _, _, _, _, _]) hS.has)
      have hyx : (⟨x.fro, x.life, x.epoch, x.claim, y.cells⟩ : NoteS) = y := by
        obtain ⟨f, l, e, c, cs⟩ := y
        simp only [NoteS.mk.injEq, and_true]
        exact ⟨hxy.fro, hxy.life, hxy.epoch, hxy.claim⟩
      refine (rhear_ok x y.cells (cellsE_get (hS.get 4 rfl) hxi hyi).2 hsrc hw3 hnk).mono ?_
      rintro v w' ⟨rfl, mg, mc, hk⟩
      refine KeepC.mk hk.ext ?_
      rw [hyx] at hk
      replace hS := St.callAt (A := rgotH Y W i la lc (two (1 - y.fro) (some ⟨(Y.side (1 - y.fro)).n, 0, none⟩) (rnodeP (Y.side (1 - (1 - y.fro))) (W.side (1 - (1 - y.fro))))) (two (1 - y.fro) (byP (Y.side (1 - y.fro))) (byP (Y.side (1 - (1 - y.fro)))))) (B := [_]) hS hk
      repeat' ((conv => whnf); first | refine RetC.mk ?_ | refine NzC.mk (by decide) ?_ | refine RngC.mk (by omega) (by omega) ?_ | refine IdxC.mk (by omega) (by omega) ?_ | refine brD (fun _ => ?_) (fun _ => ?_) | refine brND (fun _ => ?_) (fun _ => ?_) | refine brN (fun _ => ?_) (fun _ => ?_) | refine brI (fun _ => ?_) (fun _ => ?_))
      exact ⟨rfl, hU (A := { Y.side (1 - y.fro) with mg := mg, mc := mc }) rfl rfl rfl (St.rgotOff (B := rnodeH { Y.side (1 - y.fro) with mg := mg, mc := mc } (N.hear y).2 (R.side (1 - y.fro))) (hS.keep 13))⟩
end
end Go.Proofs.YtoaghhcjlfiflaaGreatDoor

namespace Go.Proofs.YtoaghhcjlfiflaaGreatDoor
open Go Ev
section
variable {w w' w0 : World} {Y : RWorldA} {W : WorldS} {R : RBys} {m j : Nat}
theorem rwtwice_ok (k : Int) (h : RStands w0 m j w Y W R) : CallC Tryz.prog 76 #[.pointer (some ⟨Y.w, 0, none⟩), .int .i64 k] w fun v w' => v = .int .i64 ((W.twice k).1 : Nat) ∧ RDoes w0 m j w Y W R (W.twice k).2 w' := by
  have hflen := h.ok.fly
  by_cases hu : W.at_ k = 0
  case neg =>
    have hb : k < 0 ∨ k ≥ W.fly.length := by
      unfold WorldS.at_ at hu
      refine Classical.byContradiction fun h => hu (if_neg h)
    have h4 : W.at_ k = 4 := if_pos hb
    rw [show W.twice k = (W.at_ k, W) from if_pos hu, h4]
    refine fn_intro tabOk Tryz.func76 (by kernel_rfl) rfl Tryz.ntmps76 (Nat.le_of_ble_eq_true rfl) ?_
    have hld := h.has.start
    (conv => whnf)
    refine brD (fun h1 => ?_) (fun h1 => ?_)
    · repeat' ((conv => whnf); first | refine RetC.mk ?_ | refine NzC.mk (by decide) ?_ | refine RngC.mk (by omega) (by omega) ?_ | refine IdxC.mk (by omega) (by omega) ?_ | refine brD (fun _ => ?_) (fun _ => ?_) | refine brND (fun _ => ?_) (fun _ => ?_) | refine brN (fun _ => ?_) (fun _ => ?_) | refine brI (fun _ => ?_) (fun _ => ?_))
      exact ⟨rfl, RDoes.same h (Nat.le_refl _) (Nat.le_refl _) (Ext.refl _ _)⟩
    · (conv => whnf)
      refine hld.ld 0 rfl rfl ?_
      (conv => whnf)
      refine brD (fun h2 => ?_) (fun h2 => by omega)
      repeat' ((conv => whnf); first | refine RetC.mk ?_ | refine NzC.mk (by decide) ?_ | refine RngC.mk (by omega) (by omega) ?_ | refine IdxC.mk (by omega) (by omega) ?_ | refine brD (fun _ => ?_) (fun _ => ?_) | refine brND (fun _ => ?_) (fun _ => ?_) | refine brN (fun _ => ?_) (fun _ => ?_) | refine brI (fun _ => ?_) (fun _ => ?_))
      exact ⟨rfl, RDoes.same h (Nat.le_refl _) (Nat.le_refl _) (Ext.refl _ _)⟩
  obtain ⟨i, rfl, hi⟩ := at_in hu
  have hS := h.has.left.start
  have hc : (cellsE Y.vs W.fly).holds w := hS.get 4 rfl
  have hl : Y.vs.length = W.fly.length := hc.1
  obtain ⟨x, hx⟩ : ∃ x, Y.vs[i]? = some x := ⟨_, List.getElem?_eq_getElem (by omega)⟩
  obtain ⟨y, hy⟩ : ∃ y, W.fly[i]? = some y := ⟨_, List.getElem?_eq_getElem (by omega)⟩
  have hcap := ownL_cap (hS.get 3 rfl)
  obtain ⟨b0, o0, hfa, _⟩ := (ownL_slc (G := fun _ => True) codNote (hS.get 3 rfl) (fun _ _ => trivial)).cells i x hx
  have hlt : (Y.vs.take (i + 1)).length = i + 1 := by rw [List.length_take]; omega
  refine fn_intro tabOk Tryz.func76 (by kernel_rfl) rfl Tryz.ntmps76 (Nat.le_of_ble_eq_true rfl) ?_
  (conv => whnf)
  refine hS.ld 0 rfl rfl ?_
  (conv => whnf)
  refine brD (fun h2 => absurd h2 (by omega)) (fun h2 => ?_)
  (conv => whnf)
  refine hS.ld 0 rfl rfl ?_
  (conv => whnf)
  refine brD (fun h3 => ?_) (fun h3 => ?_)
  · rw [show W.twice i = (6, W) by unfold WorldS.twice; rw [if_neg (fun h => h hu), if_pos (by omega)]]
    repeat' ((conv => whnf); first | refine RetC.mk ?_ | refine NzC.mk (by decide) ?_ | refine RngC.mk (by omega) (by omega) ?_ | refine IdxC.mk (by omega) (by omega) ?_ | refine brD (fun _ => ?_) (fun _ => ?_) | refine brND (fun _ => ?_) (fun _ => ?_) | refine brN (fun _ => ?_) (fun _ => ?_) | refine brI (fun _ => ?_) (fun _ => ?_))
    exact ⟨rfl, RDoes.same h (Nat.le_refl _) (Nat.le_refl _) (Ext.refl _ _)⟩
  have hw : W.twice i = (0, { W with fly := W.fly.take (i + 1) ++ y :: W.fly.drop (i + 1) }) := by
    unfold WorldS.twice
    rw [if_neg (fun h => h hu), if_neg (by omega)]
    show (match W.fly[(i : Int).toNat]? with | none => _ | some x => _) = _
    rw [Int.toNat_natCast, hy]
  have hok := h.ok.twice i
  rw [hw] at hok ⊢
  have hll : (W.fly.take (i + 1) ++ y :: W.fly.drop (i + 1)).length = i + 1 + 1 + (W.fly.length - (i + 1)) := by
    simp only [List.length_append, List.length_cons, List.length_take, List.length_drop]
    omega
  replace hS := hS.addNil 134 5 encNV
  (conv => whnf)
  refine hS.ld 0 rfl rfl ?_
  (conv => whnf)
  refine RngC.mk (by omega) (by omega) ?_
  (conv => whnf)
  refine slcHead (j := i + 1) (ownL_slc (G := fun _ => True) codNote (hS.get 3 rfl) (fun _ _ => trivial)) hcap Tryz.underlying79 (by kernel_rfl) (by omega) (by omega) (fun a5 c5 hx5 => ?_)
  (conv => whnf)
  refine hS.appS codNote 6 (xs := []) Tryz.underlying79 (bytes := 56) (by kernel_rfl) (z := .agg (encNV noNV).toArray) (by kernel_rfl) rfl rfl hx5 (by unfold maxLen; simp; omega) (by simp; omega) (fun a6 c6 w6 hS => ?_)
  rw [show ([] : List NoteV).length + (i + 1) = i + 1 by simp] at hS ⊢
  (conv => whnf)
  refine hS.ld 0 rfl (v := .slice (some ⟨b0, o0, none⟩) W.fly.length Y.lc) (by rw [← hfa]; rfl) ?_
  (conv => whnf)
  refine IdxC.mk (by omega) (by omega) ?_
  (conv => whnf)
  refine hS.ldRow codNote 3 (by rw [← hfa]; rfl) hx rfl ?_
  (conv => whnf)
  refine hS.lit Tryz.underlying79 (sz := 5) (by kernel_rfl) (z := .agg (encNV noNV).toArray) (by kernel_rfl) rfl rfl (cs := encNV x) (by rfl) (fun b9 w7 hb9 hS => ?_)
  (conv => whnf)
  refine hS.appS codNote 6 (ys := [x]) (G := fun _ => True) Tryz.underlying79 (bytes := 56) (by kernel_rfl) (z := .agg (encNV noNV).toArray) (by kernel_rfl) rfl rfl (Slc.of_blk codNote (hS.blk 7 rfl) rfl (by simp) (fun _ _ => trivial) rfl) (by simp only [List.nil_append]; rw [hlt]; unfold maxLen; omega) (by simp only [List.nil_append]; rw [hlt]; omega) (fun a8 c8 w8 hS => ?_)
  simp only [List.nil_append] at hS ⊢
  rw [hlt] at hS ⊢
  (conv => whnf)
  refine hS.ld 0 rfl rfl ?_
  (conv => whnf)
  refine RngC.mk (by omega) (by omega) ?_
  (conv => whnf)
  refine slcTail (j := i + 1) (ownL_slc (G := fun _ => True) codNote (hS.get 3 rfl) (fun _ _ => trivial)) hcap Tryz.underlying79 (by kernel_rfl) (by kernel_rfl) (by omega) (by omega) (fun a7 c7 hx7 hc7 => ?_)
  have hlt2 : (Y.vs.take (i + 1) ++ [x]).length = i + 1 + 1 := by rw [List.length_append, hlt]; rfl
  (conv => whnf)
  refine hS.appS codNote 6 Tryz.underlying79 (bytes := 56) (by kernel_rfl) (z := .agg (encNV noNV).toArray) (by kernel_rfl) rfl rfl hx7 (by rw [hlt2]; unfold maxLen; omega) (by rw [hlt2]; omega) (fun a9 c9 w9 hS => ?_)
  rw [hlt2, ← hll] at hS ⊢
  rw [show Y.vs.take (i + 1) ++ [x] ++ Y.vs.drop (i + 1) = Y.vs.take (i + 1) ++ x :: Y.vs.drop (i + 1) by simp] at hS
  (conv => whnf)
  refine hS.st 0 rfl (by exact Nat.le_of_ble_eq_true rfl) rfl (fun w10 hS => ?_)
  repeat' ((conv => whnf); first | refine RetC.mk ?_ | refine NzC.mk (by decide) ?_ | refine RngC.mk (by omega) (by omega) ?_ | refine IdxC.mk (by omega) (by omega) ?_ | refine brD (fun _ => ?_) (fun _ => ?_) | refine brND (fun _ => ?_) (fun _ => ?_) | refine brN (fun _ => ?_) (fun _ => ?_) | refine brI (fun _ => ?_) (fun _ => ?_))
  obtain ⟨hxy, hsl⟩ := cellsE_get (hS.get 4 rfl) hx hy
  have hS2 := (hS.upd 4 rfl (e' := cellsE (Y.vs.take (i + 1) ++ x :: Y.vs.drop (i + 1)) (W.fly.take (i + 1) ++ y :: W.fly.drop (i + 1))) (T := No) (Ext.refl _ _) (fun _ h => h.elim) cellsE_local (twice_cells (hS.get 4 rfl) hxy hsl) (fun b hb => .inl ((twice_foot hb).elim id fun h => cellsE_foot.2 ⟨x, List.mem_of_getElem? hx, h⟩))).sel [0, 1, 2, 6, 4, 5] (by decide)
  have hk2 := RTurns.fixed h.has (Y' := { Y with la := a9, lc := c9, vs := Y.vs.take (i + 1) ++ x :: Y.vs.drop (i + 1) }) (W' := { W with fly := W.fly.take (i + 1) ++ y :: W.fly.drop (i + 1) }) (St.turns hS2) rfl rfl rfl rfl
  exact ⟨rfl, { Y with la := a9, lc := c9, vs := Y.vs.take (i + 1) ++ x :: Y.vs.drop (i + 1) }, R, rfl, hk2, h.turns hk2 hok h.rules h.a h.b⟩
end
end Go.Proofs.YtoaghhcjlfiflaaGreatDoor

namespace Go.Proofs.YtoaghhcjlfiflaaGreatDoor
open Go Ev
def bothE (e f : Ent) : Ent := ⟨e.foot ++ f.foot, fun w => e.holds w ∧ f.holds w⟩
theorem bothE_local {e f : Ent} (h : e.Local) (g : f.Local) : (bothE e f).Local := fun w w' hb hh => ⟨h w w' (fun b hb' => hb b (List.mem_append_left _ hb')) hh.1, g w w' (fun b hb' => hb b (List.mem_append_right _ hb')) hh.2⟩
section
variable {w w' w0 : World} {Y : RWorldA} {W : WorldS} {R : RBys} {m j : Nat}
def RWorldA.with (Y : RWorldA) (la : Option Addr) (lc : Nat) (vs : List NoteV) (ea : Option Addr) (ec : Nat) : RWorldA := { Y with la := la, lc := lc, vs := vs, ea := ea, ec := ec }
theorem flyK_stop {F l : List NoteS} {k : Nat} (hF : F.length ≤ 200) (h : ¬ (flyK F l k).length < 200 ∨ k = l.length) : flyK F l k = F ++ l.take (200 - F.length) := by
  rcases h with h | h
  · unfold flyK at h ⊢
    rw [List.length_append, List.length_take, List.length_take] at h
    rw [List.take_take, Nat.min_eq_left (by omega)]
  · exact flyK_end h
abbrev cellO (x : Option Addr) (y : Nat) (l : List NoteS) : Ent := ownL 59 10 encCell (.slice x (cellsOfN l).length y) (cellsOfN l)
abbrev rtickH (Y : RWorldA) (W : WorldS) (np bp : List (Option Addr)) (A : RNodeA) (N : NodeS) (B : RBy) (a : Option Addr) (c : Nat) (x : Option Addr) (y : Nat) (l : List NoteS) : List Ent :=
  [blk Y.w 123 (encRW Y W), ownL 126 1 encP (.slice Y.na 2 Y.nc) np, ownL 124 1 encP (.slice Y.ba 2 Y.bc) bp, ownL 134 5 encNV (.slice Y.la W.fly.length Y.lc) Y.vs, bothE (cellsE Y.vs W.fly) (cellO x y l), ownL 135 2 encEv (.slice Y.ea W.events.length Y.ec) W.events] ++ (rnodeH A N B ++ [ownL 134 5 encNV (.slice a (l.map (noteV x y)).length c) (l.map (noteV x y))])
def rowT (Y : RWorldA) (W : WorldS) : Nat → Prop := fun d => d ∈ (ownL 134 5 encNV (.slice Y.la W.fly.length Y.lc) Y.vs).foot
def revT (Y : RWorldA) (W : WorldS) : Nat → Prop := fun d => d ∈ (ownL 135 2 encEv (.slice Y.ea W.events.length Y.ec) W.events).foot
set_option maxHeartbeats 4000000 in
set_option maxRecDepth 10000 in
theorem rtickLoop {S : Nat → Prop} {w5 : World} {np bp : List (Option Addr)} {A : RNodeA} {N : NodeS} {B : RBy} {a x ea : Option Addr} {c y ec ll : Nat} {l : List NoteS} {ev : List (Int × Int)} {σ : Slots} {Q : Exit → Slots → World → Prop}
    (hs : Sub [(10, .int .i64 ((0 : Nat) : Int)), (8, .slice a ll c), (0, .pointer (some ⟨Y.w, 0, none⟩))] σ)
    (hS : St w S w5 (rtickH (Y.with Y.la Y.lc Y.vs ea ec) (W.with W.fly ev) np bp A N B a c x y l)) (hflen : W.fly.length ≤ 200) (hshort : l.length ≤ 2) (hll : (l.map (noteV x y)).length = ll) (hnl : ll = l.length)
    (hcell : ∀ n ∈ l, (n.claim = true ∧ n.cells = []) ∨ (n.claim = false ∧ n.cells = cellsOfN l))
    (hQ : ∀ σ w6, (∃ la lc vs, St w S w6 (rtickH (Y.with la lc vs ea ec) (W.with (W.fly ++ l.take (200 - W.fly.length)) ev) np bp A N B a c x y l)) → Q (.exit 0) σ w6) :
    LoopC Tryz.prog tab 123 (loopAt Tryz.f70 0) Q σ w5 := by
  refine loopR tabOk (fun σ w' q => ∃ (k : Nat) (la : Option Addr) (lc : Nat) (vs : List NoteV), σ = [(10, .int .i64 k), (8, .slice a ll c), (0, .pointer (some ⟨Y.w, 0, none⟩))] ∧ q = ll - k ∧ k ≤ ll ∧ St w S w' (rtickH (Y.with la lc vs ea ec) (W.with (flyK W.fly l k) ev) np bp A N B a c x y l))
    (σ' := [(10, .int .i64 ((0 : Nat) : Int)), (8, .slice a ll c), (0, .pointer (some ⟨Y.w, 0, none⟩))]) (n := ll) hs ⟨0, Y.la, Y.lc, Y.vs, rfl, rfl, Nat.zero_le _, by rw [flyK_zero]; exact hS⟩ ?_
  clear hS
  rintro _ w5 q' ⟨k, la, lc, vs, rfl, rfl, hk, hS⟩
  have hfl := flyK_le (l := l) (k := k) hflen
  (conv => whnf)
  refine brD (fun h3 => ?_) (fun h3 => ?_)
  · have hk3 : k < l.length := by omega
    obtain ⟨z, hz⟩ : ∃ z, l[k]? = some z := ⟨_, List.getElem?_eq_getElem hk3⟩
    have hzm := List.mem_of_getElem? hz
    have hxk : (l.map (noteV x y))[k]? = some (noteV x y z) := by rw [List.getElem?_map, hz]; rfl
    obtain ⟨g, o, hga⟩ : ∃ g o, a = some ⟨g, o, none⟩ := by
      obtain ⟨b0, o0, h1, _⟩ := (ownL_slc (G := fun _ => True) codNote (hS.get 13 rfl) (fun _ _ => trivial)).cells k _ hxk
      exact ⟨b0, o0, h1⟩
    subst hga
    have hboth : (bothE (cellsE vs (flyK W.fly l k)) (cellO x y l)).holds w5 := hS.get 4 rfl
    have hvl : vs.length = (flyK W.fly l k).length := hboth.1.1
    (conv => whnf)
    refine hS.ld 0 rfl rfl ?_
    (conv => whnf)
    refine brD (fun h4 => ?_) (fun h4 => ?_)
    · have hmore := flyK_more hz (Int.ofNat_lt.1 h4)
      have hr0 := hS.apartAt 0 3 rfl rfl (by decide) _ (List.mem_singleton.2 rfl)
      have hr1 : g ∉ (ownL 134 5 encNV (.slice la (flyK W.fly l k).length lc) vs).foot := hS.apartAt 13 3 rfl rfl (by decide) g (foot_own rfl)
      (conv => whnf)
      (refine drawS tabOk mixed [] (rowT (Y.with la lc vs ea ec) (W.with (flyK W.fly l k) ev)) [0, 1, 2, 3, 4, 5, 6, 7, 8, 9, 10] (by kernel_rfl) ?_; rintro w1 rfl; replace hS := hS.drew)
      have hK := hS.ref (rowT (Y.with la lc vs ea ec) (W.with (flyK W.fly l k) ev))
      (conv => whnf)
      refine hS.ldF 0 rfl rfl hr0 ?_
      (conv => whnf)
      refine IdxC.mk (by omega) (by omega) ?_
      (conv => whnf)
      refine hS.ldRowF codNote 13 (by rfl) hxk rfl hr1 ?_
      (conv => whnf)
      refine hS.litX Tryz.underlying79 (sz := 5) (by kernel_rfl) (z := .agg (encNV noNV).toArray) (by kernel_rfl) rfl rfl (cs := encNV (noteV x y z)) (by rfl) (fun b9 w3 hb9 hx hS => ?_)
      replace hK := hK.trans hx.of_no
      clear hx
      refine KeepC.mk hK ?_
      (conv => whnf)
      refine hS.appX codNote 3 (ys := [noteV x y z]) (G := fun _ => True) Tryz.underlying79 (bytes := 56) (by kernel_rfl) (z := .agg (encNV noNV).toArray) (by kernel_rfl) rfl rfl (Slc.of_blk codNote (hS.blk 14 rfl) rfl (by simp) (fun _ _ => trivial) rfl) (by show vs.length + 1 ≤ _; rw [hvl]; unfold maxLen; omega) (by show (vs.length + 1) * 56 ≤ _; rw [hvl]; omega) (fun la2 lc2 w9 hx hS => ?_)
      replace hK := hK.trans (hx.mono fun d hd => foot_own hd)
      clear hx
      refine KeepC.mk hK ?_
      clear hK
      (conv => whnf)
      refine hS.st 0 rfl (by exact Nat.le_of_ble_eq_true rfl) rfl (fun w10 hS => ?_)
      (conv => whnf)
      refine RngC.mk (by omega) (by omega) ?_
      have hb2 : (bothE (cellsE vs (flyK W.fly l k)) (cellO x y l)).holds w10 := hS.get 4 rfl
      obtain ⟨hzi, hzs⟩ := noteV_is hcell (ownL_slc (G := fun _ => True) codCell hb2.2 (fun _ _ => trivial)) hzm
      have hj := (hS.upd 4 rfl (e' := bothE (cellsE (vs ++ [noteV x y z]) (flyK W.fly l k ++ [z])) (cellO x y l)) (T := No) (Ext.refl _ _) (fun _ h => h.elim) (bothE_local cellsE_local ownL_local) ⟨cellsE_app hb2.1 (cellsE_one hzi hzs), hb2.2⟩ (fun b hb => .inl (by
        rcases List.mem_append.1 hb with hb | hb
        · obtain ⟨u, hu, hb⟩ := cellsE_foot.1 hb
          rcases List.mem_append.1 hu with hu | hu
          · exact List.mem_append_left _ (cellsE_foot.2 ⟨u, hu, hb⟩)
          · obtain rfl := List.mem_singleton.1 hu
            refine List.mem_append_right _ ?_
            have h5 := footN_own hb
            rcases hcell z hzm with ⟨h6, h7⟩ | ⟨h6, h7⟩
            · have : (noteV x y z).n = 0 := by show z.cells.length = 0; rw [h7]; rfl
              unfold footN at hb
              rw [if_pos this] at hb
              cases hb
            · have e : (noteV x y z).a = x := by show (if z.claim = true then none else x) = x; rw [h6]; rfl
              rw [e] at h5
              refine foot_own ?_
              cases x with
              | none => simp [Value.ownBlock] at h5
              | some x => simpa [Value.ownBlock] using h5
        · exact List.mem_append_right _ hb))).keep 14
      (conv => whnf)
      refine LoopE.mk ⟨_, [(10, .int .i64 ((k + 1 : Nat) : Int)), (8, _), (0, _)], ?_, ⟨rfl, rfl, rfl, trivial⟩, ⟨k + 1, la2, lc2, vs ++ [noteV x y z], rfl, rfl, by omega, ?_⟩⟩
      · omega
      · rw [hmore]
        have hl1 : (Y.with la lc vs ea ec).vs.length + 1 = (flyK W.fly l k ++ [z]).length := by rw [List.length_append, ← hvl]; rfl
        rw [hl1] at hj
        exact hj
    · have hstop := flyK_stop (l := l) (k := k) hflen (.inl fun h => h4 (Int.ofNat_lt.2 h))
      rw [hstop] at hS
      (conv => whnf)
      exact hQ _ _ ⟨la, lc, vs, hS⟩
  · have hstop := flyK_stop (l := l) (k := k) hflen (.inr (by omega))
    rw [hstop] at hS
    (conv => whnf)
    exact hQ _ _ ⟨la, lc, vs, hS⟩
theorem tick_rules (N : NodeS) (B : BytS) : (N.tick B).2.2.1.rules = N.rules := by
  have h1 : ∀ (M : NodeS) (c : Bool), (M.notes c).2.rules = M.rules := fun M c => by
    unfold NodeS.notes
    dsimp only
    split <;> rfl
  have h2 : (N.step.2.claim B).2.1.rules = N.rules := by
    unfold NodeS.claim
    repeat' split
    all_goals rfl
  unfold NodeS.tick
  split
  · rfl
  split
  · split
    · exact h2
    · exact (h1 _ (N.step.2.claim B).1.1).trans h2
  · exact h1 N.step.2 false
theorem rhalf_with {n : Int} (hn : n = 0 ∨ n = 1) (s : SideS) (B : RBy) (f : List NoteS) (e : List (Int × Int)) (la : Option Addr) (lc : Nat) (vs : List NoteV) (ea : Option Addr) (ec : Nat) :
    rhalfH (Y.with la lc vs ea ec) ((W.setSide n s).with f e) (R.setSide n B) n = rfixH (Y.with la lc vs ea ec) (W.with f e) (two n (rnodeP (Y.side n) s) (rnodeP (Y.side (1 - n)) (W.side (1 - n)))) (two n (byP (Y.side n)) (byP (Y.side (1 - n)))) ++ rsideH (Y.side n) s B := by
  rcases hn with rfl | rfl <;> rfl
theorem RDoes.with (h : RStands w0 m j w Y W R) {n : Int} (hn : n = 0 ∨ n = 1) {s : SideS} {B : RBy} {m' j' : Nat} {f : List NoteS} {e : List (Int × Int)} {la : Option Addr} {lc : Nat} {vs : List NoteV} {ea : Option Addr} {ec : Nat} (k : Turns w w' (rhalfH Y W R n) (rfixH (Y.with la lc vs ea ec) (W.with f e) (two n (rnodeP (Y.side n) s) (rnodeP (Y.side (1 - n)) (W.side (1 - n)))) (two n (byP (Y.side n)) (byP (Y.side (1 - n)))) ++ rsideH (Y.side n) s B)) (ok : WOk m' ((W.setSide n s).with f e)) (hj : j ≤ j') (hs : RSide w0 j' (Y.side n) s B) : RDoes w0 m' j' w Y W R ((W.setSide n s).with f e) w' := by
  rw [← rhalf_with hn s B f e] at k
  have hk := RTurns.world hn h.has k rfl (with_side hn s f e) (rside_set (Y := Y) (R := R) hn (Y.side n) s B).2.2.2
  refine ⟨Y.with la lc vs ea ec, R.setSide n B, rfl, hk, ?_⟩
  rcases hn with rfl | rfl
  · exact h.turns hk ok h.rules hs (h.b.le hj)
  · exact h.turns hk ok h.rules (h.a.le hj) hs
set_option maxHeartbeats 4000000 in
set_option maxRecDepth 10000 in
theorem rwtick_ok (n : Int) (h : RStands w0 m j w Y W R) (hm : m + 34 ≤ 40000000) (hj : j ≤ 50000000) : CallC Tryz.prog 70 #[.pointer (some ⟨Y.w, 0, none⟩), .int .i64 n] w fun v w' => v = .int .i64 ((W.tick n).1 : Nat) ∧ RDoes w0 (m + 34) (j + 18) w Y W R (W.tick n).2 w' := by
  refine fn_intro tabOk Tryz.func70 (by kernel_rfl) rfl Tryz.ntmps70 (Nat.le_of_ble_eq_true rfl) ?_
  (conv => whnf)
  refine (rupErr_ok n h).mono ?_
  rintro v w1 ⟨rfl, rfl⟩
  by_cases hn : n = 0 ∨ n = 1
  case neg =>
    rw [show W.tick n = (2, W) from if_pos (by omega), show W.upErr n = 2 from if_pos (by omega)]
    repeat' ((conv => whnf); first | refine RetC.mk ?_ | refine NzC.mk (by decide) ?_ | refine RngC.mk (by omega) (by omega) ?_ | refine IdxC.mk (by omega) (by omega) ?_ | refine brD (fun _ => ?_) (fun _ => ?_) | refine brND (fun _ => ?_) (fun _ => ?_) | refine brN (fun _ => ?_) (fun _ => ?_) | refine brI (fun _ => ?_) (fun _ => ?_))
    exact ⟨rfl, RDoes.same h (Nat.le_add_right _ _) (Nat.le_add_right _ _) (Ext.refl _ _)⟩
  cases hN : (W.side n).node with
  | none =>
    rw [show W.tick n = (7, W) by unfold WorldS.tick; rw [if_neg (by omega), hN], upErr_none hn hN]
    repeat' ((conv => whnf); first | refine RetC.mk ?_ | refine NzC.mk (by decide) ?_ | refine RngC.mk (by omega) (by omega) ?_ | refine IdxC.mk (by omega) (by omega) ?_ | refine brD (fun _ => ?_) (fun _ => ?_) | refine brND (fun _ => ?_) (fun _ => ?_) | refine brN (fun _ => ?_) (fun _ => ?_) | refine brI (fun _ => ?_) (fun _ => ?_))
    exact ⟨rfl, RDoes.same h (Nat.le_add_right _ _) (Nat.le_add_right _ _) (Ext.refl _ _)⟩
  | some N =>
    have hok := h.ok.tick (by omega) n
    have hwt : W.tick n = W.ticked n N (N.tick (W.side n).byt) := by unfold WorldS.tick; rw [if_neg (by omega), hN]
    rw [hwt] at hok ⊢
    rw [upErr_some hn hN]
    have hsd := h.side hn
    have hnk := ((h.ok.side hn).node N hN).1
    have hBk := (h.ok.side hn).bok
    have hflen := h.ok.fly
    have hevl := h.ok.events
    have hshort := tick_short N (W.side n).byt
    have hcell := tick_cells N (W.side n).byt
    have hrls := tick_rules N (W.side n).byt
    have hrl := hsd.rules N hN
    have hal := hsd.alike
    have hrok := hsd.rok
    clear hsd
    have hS := (h.half hn).start
    have hU : ∀ {w'} {s : SideS} {B : RBy}, WOk (m + 34) (W.setSide n s) → RSide w0 (j + 18) (Y.side n) s B → St w (inF (rhalfH Y W R n)) w' (rfixH Y W (two n (rnodeP (Y.side n) s) (rnodeP (Y.side (1 - n)) (W.side (1 - n)))) (two n (byP (Y.side n)) (byP (Y.side (1 - n)))) ++ rsideH (Y.side n) s B) → RDoes w0 (m + 34) (j + 18) w Y W R (W.setSide n s) w' := fun ok hs k => RDoes.set h hn (St.turns k) ok (Nat.le_add_right _ _) hs
    have hU2 : ∀ {w'} {s : SideS} {B : RBy} {f : List NoteS} {e : List (Int × Int)} {la : Option Addr} {lc : Nat} {vs : List NoteV} {ea : Option Addr} {ec : Nat}, WOk (m + 34) ((W.setSide n s).with f e) → RSide w0 (j + 18) (Y.side n) s B → St w (inF (rhalfH Y W R n)) w' (rfixH (Y.with la lc vs ea ec) (W.with f e) (two n (rnodeP (Y.side n) s) (rnodeP (Y.side (1 - n)) (W.side (1 - n)))) (two n (byP (Y.side n)) (byP (Y.side (1 - n)))) ++ rsideH (Y.side n) s B) → RDoes w0 (m + 34) (j + 18) w Y W R ((W.setSide n s).with f e) w' := fun ok hs k => RDoes.with h hn (St.turns k) ok (Nat.le_add_right _ _) hs
    generalize hSS : inF (rhalfH Y W R n) = S at hS hU hU2
    rw [rhalf_up hN] at hS
    clear hSS hwt
    obtain ⟨gn, hgn⟩ := two_own (hS.get 1 rfl)
    obtain ⟨gb, hgb⟩ := two_own (hS.get 2 rfl)
    generalize (W.side n).byt = B at *
    generalize hqq : rnodeP (Y.side (1 - n)) (W.side (1 - n)) = pq at *
    generalize hbq : byP (Y.side (1 - n)) = bq at *
    (conv => whnf)
    refine hS.ld 0 rfl (v := .slice (some ⟨gn, 0, none⟩) 2 Y.nc) (by rw [← hgn]; rfl) ?_
    (conv => whnf)
    refine IdxC.mk (by omega) (by omega) ?_
    (conv => whnf)
    refine hS.ldTwo 1 hn (by rw [← hgn]; rfl) rfl ?_
    (conv => whnf)
    refine hS.ld 6 rfl rfl ?_
    (conv => whnf)
    refine hS.ld 7 rfl rfl ?_
    (conv => whnf)
    have hw3 : Has _ (rnodeH (Y.side n) N (R.side n)) := Has.right (A := [_, _, _, _, _, _]) hS.has
    refine (rtick_ok hw3 hnk hBk hal hrok hj hm).mono ?_
    rintro v w3 ⟨a, c, x, y, R', rfl, hAl, hRk, hk⟩
    replace hS := St.callAt (A := [_, _, _, _, _, _]) (B := []) hS hk
    clear hk hw3
    generalize N.tick B = T at *
    obtain ⟨e, l, N', B'⟩ := T
    dsimp only at hAl hRk hshort hcell hrls hok hS ⊢
    have hnl : (l.map (noteV x y)).length = l.length := List.length_map _
    replace hS : St w S w3 (rfixH Y W (two n (some ⟨(Y.side n).n, 0, none⟩) pq) (two n (byP (Y.side n)) bq) ++ (rnodeH (Y.side n) N' R' ++ rnoteH a c x y l)) := hS
    generalize hll : (l.map (noteV x y)).length = ll at hnl
    have hoffE := hAl.off
    have hpl : W.ticked n N (e, l, N', B') = if B'.off = true then (e, W.setSide n ⟨none, B'⟩) else if e ≠ 0 then (e, W.setSide n ⟨some N', B'⟩) else
      (0, (W.setSide n ⟨some N', B'⟩).with (W.fly ++ l.take (200 - W.fly.length)) (if N.role.active = false ∧ N'.role.active = true ∧ W.events.length < 1000 then W.events ++ [(n, N'.role.epoch)] else W.events)) := rfl
    rw [hpl] at hok ⊢
    clear hpl
    have hside : RSide w0 (j + 18) (Y.side n) ⟨some N', B'⟩ R' := ⟨hAl, hRk, fun M hM => by
      obtain rfl := Option.some.inj hM
      rw [hrls]
      exact hrl⟩
    (conv => whnf)
    refine hS.ld 0 rfl (v := .slice (some ⟨gb, 0, none⟩) 2 Y.bc) (by rw [← hgb]; rfl) ?_
    (conv => whnf)
    refine IdxC.mk (by omega) (by omega) ?_
    (conv => whnf)
    refine hS.ldTwo 2 hn (by rw [← hgb]; rfl) rfl ?_
    (conv => whnf)
    refine hS.ld 12 rfl (v := .bool B'.off) (by rw [← hoffE]; rfl) ?_
    cases hoff : B'.off
    case true =>
      rw [hoff, if_pos rfl] at hok
      rw [if_pos rfl]
      (conv => whnf)
      refine hS.ld 0 rfl (v := .slice (some ⟨gn, 0, none⟩) 2 Y.nc) (by rw [← hgn]; rfl) ?_
      (conv => whnf)
      refine IdxC.mk (by omega) (by omega) ?_
      (conv => whnf)
      refine hS.stTwo (r := none) 1 hn (by rw [← hgn]; rfl) (by omega) (fun w4 hS => ?_)
      repeat' ((conv => whnf); first | refine RetC.mk ?_ | refine NzC.mk (by decide) ?_ | refine RngC.mk (by omega) (by omega) ?_ | refine IdxC.mk (by omega) (by omega) ?_ | refine brD (fun _ => ?_) (fun _ => ?_) | refine brND (fun _ => ?_) (fun _ => ?_) | refine brN (fun _ => ?_) (fun _ => ?_) | refine brI (fun _ => ?_) (fun _ => ?_))
      refine ⟨rfl, hU (s := ⟨none, B'⟩) (B := R') hok ⟨hAl, hRk, fun M hM => by cases hM⟩ ?_⟩
      have hS2 := hS.sel [0, 1, 2, 3, 4, 5, 12] (by decide)
      rw [← hgn] at hS2
      exact hS2
    rw [hoff, if_neg (by decide)] at hok
    rw [if_neg (by decide)]
    cases e with
    | succ i =>
      rw [if_pos (Nat.succ_ne_zero i)] at hok ⊢
      (conv => whnf)
      refine brD (fun _ => ?_) (fun h => absurd (show ((i + 1 : Nat) : Int) > 0 by omega) h)
      repeat' ((conv => whnf); first | refine RetC.mk ?_ | refine NzC.mk (by decide) ?_ | refine RngC.mk (by omega) (by omega) ?_ | refine IdxC.mk (by omega) (by omega) ?_ | refine brD (fun _ => ?_) (fun _ => ?_) | refine brND (fun _ => ?_) (fun _ => ?_) | refine brN (fun _ => ?_) (fun _ => ?_) | refine brI (fun _ => ?_) (fun _ => ?_))
      exact ⟨rfl, hU (s := ⟨some N', B'⟩) (B := R') hok hside (hS.keep 13)⟩
    | zero =>
      rw [if_neg (fun h => h rfl)] at hok ⊢
      have hjn := ((hS.sel [4, 14, 0, 1, 2, 3, 5, 6, 7, 8, 9, 10, 11, 12, 13] (by decide)).join (g := bothE (cellsE Y.vs W.fly) (cellO x y l)) (bothE_local cellsE_local ownL_local) ⟨hS.get 4 rfl, hS.get 14 rfl⟩ (fun b hb => List.mem_append.1 hb)).sel [1, 2, 3, 4, 0, 5, 6, 7, 8, 9, 10, 11, 12, 13] (by decide)
      replace hS : St w S w3 (rtickH (Y.with Y.la Y.lc Y.vs Y.ea Y.ec) (W.with W.fly W.events) (two n (some ⟨(Y.side n).n, 0, none⟩) pq) (two n (byP (Y.side n)) bq) (Y.side n) N' R' a c x y l) := hjn
      clear hjn hU
      have hev0 : ∀ {b1 b2 : Bool}, N.role.active = b1 → N'.role.active = b2 → (b1 = true ∨ b2 = false ∨ ¬ W.events.length < 1000) → (if N.role.active = false ∧ N'.role.active = true ∧ W.events.length < 1000 then W.events ++ [(n, N'.role.epoch)] else W.events) = W.events := fun h1 h2 h3 => if_neg (by
        rw [h1, h2]
        rintro ⟨rfl, rfl, h4⟩
        rcases h3 with h3 | h3 | h3
        · cases h3
        · cases h3
        · exact h3 h4)
      have hev1 : N.role.active = false → N'.role.active = true → W.events.length < 1000 → (if N.role.active = false ∧ N'.role.active = true ∧ W.events.length < 1000 then W.events ++ [(n, N'.role.epoch)] else W.events) = W.events ++ [(n, N'.role.epoch)] := fun h1 h2 h3 => if_pos ⟨h1, h2, h3⟩
      generalize hev : (if N.role.active = false ∧ N'.role.active = true ∧ W.events.length < 1000 then W.events ++ [(n, N'.role.epoch)] else W.events) = ev at hok ⊢
      cases ha : N.role.active
      · (conv => whnf)
        refine hS.ld 6 rfl rfl ?_
        (conv => whnf)
        refine hS.ld 7 rfl rfl ?_
        cases ha2 : N'.role.active
        · rw [← hev.symm.trans (hev0 ha ha2 (.inr (.inl rfl)))] at hS
          generalize Y.ea = ea at hS
          generalize Y.ec = ec at hS
          (conv => whnf)
          refine rtickLoop (ea := ea) (ec := ec) (ev := ev) ⟨rfl, rfl, rfl, trivial⟩ hS hflen hshort hll hnl hcell ?_
          rintro σ w6 ⟨la, lc, vs, hS⟩
          have hb2 : (bothE (cellsE vs (W.fly ++ l.take (200 - W.fly.length))) (cellO x y l)).holds w6 := hS.get 4 rfl
          replace hS := hS.upd 4 rfl (e' := cellsE vs (W.fly ++ l.take (200 - W.fly.length))) (T := No) (Ext.refl _ _) (fun _ h => h.elim) cellsE_local hb2.1 (fun b hb => .inl (List.mem_append_left _ hb))
          repeat' ((conv => whnf); first | refine RetC.mk ?_ | refine NzC.mk (by decide) ?_ | refine RngC.mk (by omega) (by omega) ?_ | refine IdxC.mk (by omega) (by omega) ?_ | refine brD (fun _ => ?_) (fun _ => ?_) | refine brND (fun _ => ?_) (fun _ => ?_) | refine brN (fun _ => ?_) (fun _ => ?_) | refine brI (fun _ => ?_) (fun _ => ?_))
          exact ⟨rfl, hU2 (s := ⟨some N', B'⟩) (B := R') (la := la) (lc := lc) (vs := vs) (ea := ea) (ec := ec) hok hside (hS.keep 13)⟩
        · (conv => whnf)
          refine hS.ld 0 rfl rfl ?_
          (conv => whnf)
          refine brD (fun h5 => ?_) (fun h5 => ?_)
          · have hv := hev.symm.trans (hev1 ha ha2 (by exact Int.ofNat_lt.1 h5))
            have h60 : Y.w ∉ (ownL 135 2 encEv (.slice Y.ea W.events.length Y.ec) W.events).foot := hS.apartAt 0 5 rfl rfl (by decide) _ (List.mem_singleton.2 rfl)
            have h66 : (Y.side n).n ∉ (ownL 135 2 encEv (.slice Y.ea W.events.length Y.ec) W.events).foot := hS.apartAt 6 5 rfl rfl (by decide) _ (List.mem_singleton.2 rfl)
            have h67 : (Y.side n).r ∉ (ownL 135 2 encEv (.slice Y.ea W.events.length Y.ec) W.events).foot := hS.apartAt 7 5 rfl rfl (by decide) _ (List.mem_singleton.2 rfl)
            (conv => whnf)
            (refine drawS tabOk mixed [] (revT Y W) [0, 1, 2, 3, 4, 5, 6, 7, 8, 9, 10, 11, 12, 13, 14, 15] (by kernel_rfl) ?_; rintro w1 rfl; replace hS := hS.drew)
            have hK := hS.ref (revT Y W)
            (conv => whnf)
            refine hS.ldF 0 rfl rfl h60 ?_
            (conv => whnf)
            refine hS.ldF 6 rfl rfl h66 ?_
            (conv => whnf)
            refine hS.ldF 7 rfl rfl h67 ?_
            (conv => whnf)
            refine hS.litX Tryz.underlying84 (sz := 2) (by kernel_rfl) (z := .agg (encEv (0, 0)).toArray) (by kernel_rfl) rfl rfl (cs := encEv (n, N'.role.epoch)) (by rfl) (fun b9 w8 hb9 hx hS => ?_)
            replace hK := hK.trans hx.of_no
            clear hx
            refine KeepC.mk hK ?_
            (conv => whnf)
            refine hS.appX codEv 5 (ys := [(n, N'.role.epoch)]) (G := fun _ => True) Tryz.underlying84 (bytes := 16) (by kernel_rfl) (z := .agg (encEv (0, 0)).toArray) (by kernel_rfl) rfl rfl (Slc.of_blk codEv (hS.blk 14 rfl) rfl (by simp) (fun _ _ => trivial) rfl) (by show W.events.length + 1 ≤ _; unfold maxLen; omega) (by show (W.events.length + 1) * 16 ≤ _; omega) (fun ea ec w9 hx hS => ?_)
            replace hK := hK.trans (hx.mono fun d hd => foot_own hd)
            clear hx
            refine KeepC.mk hK ?_
            clear hK
            (conv => whnf)
            refine hS.st 0 rfl (by exact Nat.le_of_ble_eq_true rfl) rfl (fun w10 hS => ?_)
            replace hS := (hS.keep 14).as (H' := rtickH (Y.with Y.la Y.lc Y.vs ea ec) (W.with W.fly (W.events ++ [(n, N'.role.epoch)])) (two n (some ⟨(Y.side n).n, 0, none⟩) pq) (two n (byP (Y.side n)) bq) (Y.side n) N' R' a c x y l) (by
              rw [show (W.with W.fly W.events).events.length + 1 = (W.events ++ [(n, N'.role.epoch)]).length by rw [List.length_append]; rfl]
              rfl)
            rw [← hv] at hS
            (conv => whnf)
            refine rtickLoop (ea := ea) (ec := ec) (ev := ev) ⟨rfl, rfl, rfl, trivial⟩ hS hflen hshort hll hnl hcell ?_
            rintro σ w6 ⟨la, lc, vs, hS⟩
            have hb2 : (bothE (cellsE vs (W.fly ++ l.take (200 - W.fly.length))) (cellO x y l)).holds w6 := hS.get 4 rfl
            replace hS := hS.upd 4 rfl (e' := cellsE vs (W.fly ++ l.take (200 - W.fly.length))) (T := No) (Ext.refl _ _) (fun _ h => h.elim) cellsE_local hb2.1 (fun b hb => .inl (List.mem_append_left _ hb))
            repeat' ((conv => whnf); first | refine RetC.mk ?_ | refine NzC.mk (by decide) ?_ | refine RngC.mk (by omega) (by omega) ?_ | refine IdxC.mk (by omega) (by omega) ?_ | refine brD (fun _ => ?_) (fun _ => ?_) | refine brND (fun _ => ?_) (fun _ => ?_) | refine brN (fun _ => ?_) (fun _ => ?_) | refine brI (fun _ => ?_) (fun _ => ?_))
            exact ⟨rfl, hU2 (s := ⟨some N', B'⟩) (B := R') (la := la) (lc := lc) (vs := vs) (ea := ea) (ec := ec) hok hside (hS.keep 13)⟩
          · rw [← hev.symm.trans (hev0 ha ha2 (.inr (.inr fun h => h5 (by exact Int.ofNat_lt.2 h))))] at hS
            generalize Y.ea = ea at hS
            generalize Y.ec = ec at hS
            (conv => whnf)
            refine rtickLoop (ea := ea) (ec := ec) (ev := ev) ⟨rfl, rfl, rfl, trivial⟩ hS hflen hshort hll hnl hcell ?_
            rintro σ w6 ⟨la, lc, vs, hS⟩
            have hb2 : (bothE (cellsE vs (W.fly ++ l.take (200 - W.fly.length))) (cellO x y l)).holds w6 := hS.get 4 rfl
            replace hS := hS.upd 4 rfl (e' := cellsE vs (W.fly ++ l.take (200 - W.fly.length))) (T := No) (Ext.refl _ _) (fun _ h => h.elim) cellsE_local hb2.1 (fun b hb => .inl (List.mem_append_left _ hb))
            repeat' ((conv => whnf); first | refine RetC.mk ?_ | refine NzC.mk (by decide) ?_ | refine RngC.mk (by omega) (by omega) ?_ | refine IdxC.mk (by omega) (by omega) ?_ | refine brD (fun _ => ?_) (fun _ => ?_) | refine brND (fun _ => ?_) (fun _ => ?_) | refine brN (fun _ => ?_) (fun _ => ?_) | refine brI (fun _ => ?_) (fun _ => ?_))
            exact ⟨rfl, hU2 (s := ⟨some N', B'⟩) (B := R') (la := la) (lc := lc) (vs := vs) (ea := ea) (ec := ec) hok hside (hS.keep 13)⟩
      · rw [← hev.symm.trans (hev0 ha rfl (.inl rfl))] at hS
        generalize Y.ea = ea at hS
        generalize Y.ec = ec at hS
        (conv => whnf)
        refine rtickLoop (ea := ea) (ec := ec) (ev := ev) ⟨rfl, rfl, rfl, trivial⟩ hS hflen hshort hll hnl hcell ?_
        rintro σ w6 ⟨la, lc, vs, hS⟩
        have hb2 : (bothE (cellsE vs (W.fly ++ l.take (200 - W.fly.length))) (cellO x y l)).holds w6 := hS.get 4 rfl
        replace hS := hS.upd 4 rfl (e' := cellsE vs (W.fly ++ l.take (200 - W.fly.length))) (T := No) (Ext.refl _ _) (fun _ h => h.elim) cellsE_local hb2.1 (fun b hb => .inl (List.mem_append_left _ hb))
        repeat' ((conv => whnf); first | refine RetC.mk ?_ | refine NzC.mk (by decide) ?_ | refine RngC.mk (by omega) (by omega) ?_ | refine IdxC.mk (by omega) (by omega) ?_ | refine brD (fun _ => ?_) (fun _ => ?_) | refine brND (fun _ => ?_) (fun _ => ?_) | refine brN (fun _ => ?_) (fun _ => ?_) | refine brI (fun _ => ?_) (fun _ => ?_))
        exact ⟨rfl, hU2 (s := ⟨some N', B'⟩) (B := R') (la := la) (lc := lc) (vs := vs) (ea := ea) (ec := ec) hok hside (hS.keep 13)⟩
end
end Go.Proofs.YtoaghhcjlfiflaaGreatDoor

namespace Go.Proofs.YtoaghhcjlfiflaaGreatDoor
open Go Ev
section
variable {w w' w0 : World} {Y : RWorldA} {W : WorldS} {R : RBys} {m j : Nat}
def rby0 : RBy := ⟨by0.data, false, 0, false⟩
theorem rnewBytes_ok (w : World) : CallC Tryz.prog 68 #[] w fun v w' => ∃ b, v = .pointer (some ⟨b, 0, none⟩) ∧ w.heap.size ≤ b ∧ Ext No w w' ∧ Blk w' b 171 (encRB rby0) := by
  refine fn_intro tabOk Tryz.func68 (by kernel_rfl) rfl Tryz.ntmps68 (Nat.le_of_ble_eq_true rfl) ?_
  have hS := St.start w No
  (conv => whnf)
  refine hS.mkSlice (n := 64) Tryz.underlying169 (sz := 1) (bytes := 1) (by kernel_rfl) (z := .int .u8 0) (by kernel_rfl) (by decide) (by decide) (by decide) (enc := encU) (xs := List.replicate 64 0) (by simp) (by rw [show (Value.int .u8 0).cells = #[.int .u8 0] from rfl, made_rep, Nat.mul_one]; exact rep_flat 64) (fun g w1 hg hS => ?_)
  (conv => whnf)
  obtain ⟨b0, o0, h1, hc⟩ : ∃ b0 o0, some (⟨g, 0, none⟩ : Addr) = some ⟨b0, o0, none⟩ ∧ CellsAt w1 b0 o0 ((List.replicate 64 (0 : UInt8)).flatMap encU) := by
    refine ⟨g, 0, rfl, fun i v hi => ?_⟩
    have := (hS.get 0 rfl : (ownL 5 1 encU (.slice (some ⟨g, 0, none⟩) 64 64) (List.replicate 64 (0 : UInt8))).holds w1)
    rcases own_blk this with ⟨h, _⟩ | ⟨g2, cur, h, _, hb, _, _, hl, ht⟩
    · cases h
    · simp only [Option.some.injEq, Addr.mk.injEq] at h
      obtain ⟨rfl, _⟩ := h
      rw [hb.cell, Nat.zero_add]
      rw [← ht, List.getElem?_take] at hi
      split at hi
      · exact hi
      · cases hi
  simp only [Option.some.injEq, Addr.mk.injEq] at h1
  obtain ⟨rfl, rfl, _⟩ := h1
  refine strC Tryz.underlying169 Tryz.underlying5 Tryz.underlying9 hc (by simp) ?_
  (conv => whnf)
  refine hS.new (fun b w2 hb hS => ?_)
  repeat' ((conv => whnf); first | refine RetC.mk ?_ | refine NzC.mk (by decide) ?_ | refine RngC.mk (by omega) (by omega) ?_ | refine IdxC.mk (by omega) (by omega) ?_ | refine brD (fun _ => ?_) (fun _ => ?_) | refine brND (fun _ => ?_) (fun _ => ?_) | refine brN (fun _ => ?_) (fun _ => ?_) | refine brI (fun _ => ?_) (fun _ => ?_))
  exact ⟨b, rfl, hb, hS.ext, hS.blk 1 rfl⟩
def rbornCells (na : Option Addr) (nn nc : Nat) (ba : Option Addr) (bn bc : Nat) (a : Option Addr) (n c : Nat) : List Value := [.slice na nn nc, .slice ba bn bc, .slice a n c, .slice none 0 0, .int .i64 (-1), .int .i64 0, .slice none 0 0]
def rmadeH (bw : Nat) (a : Option Addr) (c : Nat) (xs : List RuleS) (na : Option Addr) (nc : Nat) (ba : Option Addr) (bc : Nat) (N : Int → NodeS) (A A' : RNodeA) (R R' : RBy) : Nat → List Ent
  | 0 => [blk bw 123 (rbornCells none 0 0 none 0 0 a xs.length c), ownL 126 1 encP (.slice none 0 0) [], ownL 124 1 encP (.slice none 0 0) []]
  | 1 => [blk bw 123 (rbornCells na 1 nc ba 1 bc a xs.length c), ownL 126 1 encP (.slice na 1 nc) [some ⟨A.n, 0, none⟩], ownL 124 1 encP (.slice ba 1 bc) [byP A]] ++ rnodeH A (N 0) R
  | _ => [blk bw 123 (rbornCells na 2 nc ba 2 bc a xs.length c), ownL 126 1 encP (.slice na 2 nc) [some ⟨A.n, 0, none⟩, some ⟨A'.n, 0, none⟩], ownL 124 1 encP (.slice ba 2 bc) [byP A, byP A']] ++ (rnodeH A (N 0) R ++ rnodeH A' (N 1) R')
structure RMade (xs : List RuleS) (a : Option Addr) (c : Nat) (B : BytS) (A : RNodeA) (R : RBy) : Prop where
  alike : Alike R B
  rok : ROk R 18
  ra : A.ra = a
theorem rnewWorld_ok {a : Option Addr} {c : Nat} {xs : List RuleS} (hx : RulesAt w0 a xs.length xs) (h0 : (faultL xs).1 = 0) (hext : Ext No w0 w) :
    CallC Tryz.prog 30 #[.slice a xs.length c] w fun v w' => ∃ Y R, v = .pointer (some ⟨Y.w, 0, none⟩) ∧ Ext No w w' ∧ RStands w0 0 18 w' Y (.born xs) R ∧ ∀ b, inF (rworldH Y (.born xs) R) b → w.heap.size ≤ b := by
  obtain ⟨hb0, hb1, hok⟩ := WOk.born (fault_good.1 h0)
  have hby : BOk by0 := ⟨by simp [by0], by decide, by decide⟩
  have hAl : Alike rby0 by0 := ⟨rfl, rfl, (fun h => by cases h), fun _ => rfl⟩
  have hRk : ROk rby0 0 := ⟨by simp [rby0, by0], (fun h => by cases h), by simp [rby0], by show (0 : Int) ≤ 9223372036854775807; decide⟩
  have hrr : (newN 0 by0 xs).2.1.rules = xs ∧ (newN 1 by0 xs).2.1.rules = xs := ⟨rfl, rfl⟩
  refine fn_intro tabOk Tryz.func30 (by kernel_rfl) rfl Tryz.ntmps30 (Nat.le_of_ble_eq_true rfl) ?_
  have hS := St.start w No
  (conv => whnf)
  refine hS.new (fun bw w1 hbw hS => ?_)
  replace hS := (hS.addNil 126 1 encP).addNil 124 1 encP
  have noA : RNodeA := ⟨0, 0, 0, 0, 0, 0, 0, 0, 0, 0, 0, 0, 0, none, 0⟩
  replace hS : St w No w1 (rmadeH bw a c xs none 0 none 0 (fun i => (newN i by0 xs).2.1) noA noA rby0 rby0 0) := hS
  generalize hNf : (fun i => (newN i by0 xs).2.1) = N at hS
  generalize hBf : (fun i => (newN i by0 xs).2.2) = B
  have e0 : N 0 = (newN 0 by0 xs).2.1 ∧ B 0 = (newN 0 by0 xs).2.2 ∧ N 1 = (newN 1 by0 xs).2.1 ∧ B 1 = (newN 1 by0 xs).2.2 := by subst hNf hBf; exact ⟨rfl, rfl, rfl, rfl⟩
  have hbn : WorldS.born xs = ⟨⟨some (N 0), B 0⟩, ⟨some (N 1), B 1⟩, xs, [], -1, 0, []⟩ := by subst hNf hBf; rfl
  rw [hbn] at hok ⊢
  rw [← e0.1, ← e0.2.2.1] at hrr
  clear hNf hBf hbn
  (conv => whnf)
  refine loopR tabOk (fun σ w' q' => ∃ (k : Nat) (na : Option Addr) (nc : Nat) (ba : Option Addr) (bc : Nat) (A A' : RNodeA) (R R' : RBy), σ = [(4, .int .i64 k), (3, .pointer (some ⟨bw, 0, none⟩)), (0, .slice a xs.length c)] ∧ q' = 2 - k ∧ k ≤ 2 ∧ St w No w' (rmadeH bw a c xs na nc ba bc N A A' R R' k) ∧ (1 ≤ k → RMade xs a c (B 0) A R) ∧ (2 ≤ k → RMade xs a c (B 1) A' R'))
    (σ' := [(4, .int .i64 ((0 : Nat) : Int)), (3, .pointer (some ⟨bw, 0, none⟩)), (0, .slice a xs.length c)]) (n := 2) ⟨rfl, rfl, rfl, trivial⟩ ⟨0, none, 0, none, 0, noA, noA, rby0, rby0, rfl, rfl, Nat.zero_le _, hS, fun h => by omega, fun h => by omega⟩ ?_
  clear hS
  rintro _ w4 q' ⟨k, na0, nc0, ba0, bc0, A0, A1, R0, R1, rfl, rfl, hk, hS, hm0, hm1⟩
  (conv => whnf)
  refine brD (fun h3 => ?_) (fun h3 => ?_)
  · have hk2 : k = 0 ∨ k = 1 := by omega
    rcases hk2 with rfl | rfl
    · have hsz := hS.ext.size
      (conv => whnf)
      refine (rnewBytes_ok _).mono ?_
      rintro v w5 ⟨bb, rfl, hbb, hxb, hB⟩
      replace hS := hS.made hxb (blk_local _ _ _) hB (by simp [blk]; exact ⟨hbb, hB.lt⟩)
      clear hxb hB
      (conv => whnf)
      refine (rnew_ok (B := by0) (a := a) (c := c) (xs := xs) 0 (.inl rfl) (hS.blk 3 rfl) hAl hby hRk (by decide)).mono ?_
      rintro v w6 ⟨R', hA', hR', hcase⟩
      rcases hcase with ⟨_, A, hAb, hAr, hAc, rfl, hk6⟩ | ⟨h9, _⟩
      case inr => exact absurd hb0 h9
      rw [← e0.1] at hk6
      rw [← e0.2.1] at hA'
      have hS2 := St.callAt (A := [_, _, _]) (B := []) hS hk6
      subst hAb
      (conv => whnf)
      refine hS2.ld 0 rfl rfl ?_
      (conv => whnf)
      refine hS2.lit Tryz.underlying121 (sz := 1) (by kernel_rfl) (z := .pointer none) (by kernel_rfl) rfl rfl (cs := encP (some ⟨A.b, 0, none⟩)) (by rfl) (fun b9 w7 hb9 hS => ?_)
      (conv => whnf)
      refine hS.appS codP 2 (ys := [some ⟨A.b, 0, none⟩]) (G := fun _ => True) Tryz.underlying121 (bytes := 8) (by kernel_rfl) (z := .pointer none) (by kernel_rfl) rfl rfl (Slc.of_blk codP (hS.blk 10 rfl) rfl (by simp) (fun _ _ => trivial) rfl) (by unfold maxLen; simp) (by simp) (fun ba bc w8 hS => ?_)
      (conv => whnf)
      refine hS.st 0 rfl (by exact Nat.le_of_ble_eq_true rfl) rfl (fun w9 hS => ?_)
      (conv => whnf)
      refine hS.ld 0 rfl rfl ?_
      (conv => whnf)
      refine hS.lit Tryz.underlying120 (sz := 1) (by kernel_rfl) (z := .pointer none) (by kernel_rfl) rfl rfl (cs := encP (some ⟨A.n, 0, none⟩)) (by rfl) (fun b10 w10 hb10 hS => ?_)
      (conv => whnf)
      refine hS.appS codP 1 (ys := [some ⟨A.n, 0, none⟩]) (G := fun _ => True) Tryz.underlying120 (bytes := 8) (by kernel_rfl) (z := .pointer none) (by kernel_rfl) rfl rfl (Slc.of_blk codP (hS.blk 11 rfl) rfl (by simp) (fun _ _ => trivial) rfl) (by unfold maxLen; simp) (by simp) (fun na nc w11 hS => ?_)
      (conv => whnf)
      refine hS.st 0 rfl (by exact Nat.le_of_ble_eq_true rfl) rfl (fun w12 hS => ?_)
      (conv => whnf)
      refine RngC.mk (by omega) (by omega) ?_
      (conv => whnf)
      refine LoopE.mk ⟨_, [(4, .int .i64 ((1 : Nat) : Int)), (3, _), (0, _)], ?_, ⟨rfl, rfl, rfl, trivial⟩, ⟨1, na, nc, ba, bc, A, A1, R', R1, rfl, rfl, by omega, ?_⟩⟩
      · omega
      · exact ⟨hS.sel [0, 1, 2, 3, 4, 5, 6, 7, 8, 9] (by decide), fun _ => ⟨hA', hR', hAr⟩, fun h => by omega⟩
    · have hsz := hS.ext.size
      (conv => whnf)
      refine (rnewBytes_ok _).mono ?_
      rintro v w5 ⟨bb, rfl, hbb, hxb, hB⟩
      replace hS := hS.made hxb (blk_local _ _ _) hB (by simp [blk]; exact ⟨hbb, hB.lt⟩)
      clear hxb hB
      (conv => whnf)
      refine (rnew_ok (B := by0) (a := a) (c := c) (xs := xs) 1 (.inr rfl) (hS.blk 10 rfl) hAl hby hRk (by decide)).mono ?_
      rintro v w6 ⟨R', hA', hR', hcase⟩
      rcases hcase with ⟨_, A, hAb, hAr, hAc, rfl, hk6⟩ | ⟨h9, _⟩
      case inr => exact absurd hb1 h9
      rw [← e0.2.2.1] at hk6
      rw [← e0.2.2.2] at hA'
      have hS2 := St.callAt (A := [_, _, _, _, _, _, _, _, _, _]) (B := []) hS hk6
      subst hAb
      (conv => whnf)
      refine hS2.ld 0 rfl rfl ?_
      (conv => whnf)
      refine hS2.lit Tryz.underlying121 (sz := 1) (by kernel_rfl) (z := .pointer none) (by kernel_rfl) rfl rfl (cs := encP (some ⟨A.b, 0, none⟩)) (by rfl) (fun b9 w7 hb9 hS => ?_)
      (conv => whnf)
      refine hS.appS codP 2 (ys := [some ⟨A.b, 0, none⟩]) (G := fun _ => True) Tryz.underlying121 (bytes := 8) (by kernel_rfl) (z := .pointer none) (by kernel_rfl) rfl rfl (Slc.of_blk codP (hS.blk 17 rfl) rfl (by simp) (fun _ _ => trivial) rfl) (by unfold maxLen; simp) (by simp) (fun ba bc w8 hS => ?_)
      (conv => whnf)
      refine hS.st 0 rfl (by exact Nat.le_of_ble_eq_true rfl) rfl (fun w9 hS => ?_)
      (conv => whnf)
      refine hS.ld 0 rfl rfl ?_
      (conv => whnf)
      refine hS.lit Tryz.underlying120 (sz := 1) (by kernel_rfl) (z := .pointer none) (by kernel_rfl) rfl rfl (cs := encP (some ⟨A.n, 0, none⟩)) (by rfl) (fun b10 w10 hb10 hS => ?_)
      (conv => whnf)
      refine hS.appS codP 1 (ys := [some ⟨A.n, 0, none⟩]) (G := fun _ => True) Tryz.underlying120 (bytes := 8) (by kernel_rfl) (z := .pointer none) (by kernel_rfl) rfl rfl (Slc.of_blk codP (hS.blk 18 rfl) rfl (by simp) (fun _ _ => trivial) rfl) (by unfold maxLen; simp) (by simp) (fun na nc w11 hS => ?_)
      (conv => whnf)
      refine hS.st 0 rfl (by exact Nat.le_of_ble_eq_true rfl) rfl (fun w12 hS => ?_)
      (conv => whnf)
      refine RngC.mk (by omega) (by omega) ?_
      (conv => whnf)
      refine LoopE.mk ⟨_, [(4, .int .i64 ((2 : Nat) : Int)), (3, _), (0, _)], ?_, ⟨rfl, rfl, rfl, trivial⟩, ⟨2, na, nc, ba, bc, A0, A, R0, R', rfl, rfl, by omega, ?_⟩⟩
      · omega
      · exact ⟨hS.sel [0, 1, 2, 3, 4, 5, 6, 7, 8, 9, 10, 11, 12, 13, 14, 15, 16] (by decide), fun _ => hm0 (by decide), fun _ => ⟨hA', hR', hAr⟩⟩
  · obtain rfl : k = 2 := by omega
    have g0 := hm0 (by decide)
    have g1 := hm1 (by decide)
    have hS2 := (((hS.addNil 134 5 encNV).add (e := cellsE [] []) cellsE_local (cellsE_nil _) (fun b hb => by simp [cellsE] at hb) (fun f _ b _ hb => by simp [cellsE] at hb)).addNil 135 2 encEv).sel [0, 1, 2, 17, 18, 19, 3, 4, 5, 6, 7, 8, 9, 10, 11, 12, 13, 14, 15, 16] (by decide)
    replace hS2 : St w No w4 (rworldH ⟨bw, na0, nc0, ba0, bc0, a, c, none, 0, [], none, 0, A0, A1⟩ ⟨⟨some (N 0), B 0⟩, ⟨some (N 1), B 1⟩, xs, [], -1, 0, []⟩ ⟨R0, R1⟩) := hS2
    have hfr : ∀ b, inF (rworldH ⟨bw, na0, nc0, ba0, bc0, a, c, none, 0, [], none, 0, A0, A1⟩ ⟨⟨some (N 0), B 0⟩, ⟨some (N 1), B 1⟩, xs, [], -1, 0, []⟩ ⟨R0, R1⟩) b → w.heap.size ≤ b := fun b ⟨e, he, hb⟩ => (hS2.may e he b hb).1.elim (fun h => h.elim) id
    repeat' ((conv => whnf); first | refine RetC.mk ?_ | refine NzC.mk (by decide) ?_ | refine RngC.mk (by omega) (by omega) ?_ | refine IdxC.mk (by omega) (by omega) ?_ | refine brD (fun _ => ?_) (fun _ => ?_) | refine brND (fun _ => ?_) (fun _ => ?_) | refine brN (fun _ => ?_) (fun _ => ?_) | refine brI (fun _ => ?_) (fun _ => ?_))
    refine ⟨⟨bw, na0, nc0, ba0, bc0, a, c, none, 0, [], none, 0, A0, A1⟩, ⟨R0, R1⟩, rfl, hS2.ext, ⟨hS2.has, hok, hext.trans hS2.ext, fun b hb => Nat.le_trans hext.size (hfr b hb), hx, ⟨g0.alike, g0.rok, fun M hM => ?_⟩, ⟨g1.alike, g1.rok, fun M hM => ?_⟩⟩, hfr⟩
    · obtain rfl := Option.some.inj hM
      rw [hrr.1]
      show RulesAt w0 A0.ra xs.length xs
      rw [g0.ra]
      exact hx
    · obtain rfl := Option.some.inj hM
      rw [hrr.2]
      show RulesAt w0 A1.ra xs.length xs
      rw [g1.ra]
      exact hx
end
end Go.Proofs.YtoaghhcjlfiflaaGreatDoor

namespace Go.Proofs.YtoaghhcjlfiflaaGreatDoor
open Go Ev
section
variable {w w' w0 : World} {Y : RWorldA} {W : WorldS} {R : RBys} {m j : Nat}
theorem rpinside_ok (k : Int) (h0 : 0 ≤ k) (hk : k ≤ 9223372036854775807) (w : World) : CallC Tryz.prog 129 #[.int .i64 k] w fun v w' => v = .agg (encPkt (insideOf k)).toArray ∧ Ext No w w' := by
  have h1 : 0 ≤ k.tdiv 2 ∧ k.tdiv 2 ≤ k ∧ 0 ≤ k.tdiv 6 ∧ k.tdiv 6 ≤ k ∧ 0 ≤ k.tdiv 12 ∧ k.tdiv 12 ≤ k := by
    rw [Int.tdiv_eq_ediv_of_nonneg h0, Int.tdiv_eq_ediv_of_nonneg h0, Int.tdiv_eq_ediv_of_nonneg h0]
    omega
  have h00 : 0 ≤ k.tmod 2 ∧ k.tmod 2 < 2 := by rw [Int.tmod_eq_emod_of_nonneg h0]; omega
  have h2 : 0 ≤ (k.tdiv 2).tmod 3 ∧ (k.tdiv 2).tmod 3 < 3 := by rw [Int.tmod_eq_emod_of_nonneg h1.1]; omega
  have h6 : 0 ≤ (k.tdiv 6).tmod 2 ∧ (k.tdiv 6).tmod 2 < 2 := by rw [Int.tmod_eq_emod_of_nonneg h1.2.2.1]; omega
  have h12 : (k.tdiv 12).tmod 4 = 0 ∨ (k.tdiv 12).tmod 4 = 1 ∨ (k.tdiv 12).tmod 4 = 2 ∨ (k.tdiv 12).tmod 4 = 3 := by rw [Int.tmod_eq_emod_of_nonneg h1.2.2.2.2.1]; omega
  have hfin : ∀ f, (1 + k.tmod 2 = 2 → flagsOf [1, 2, 6, 8] ((k.tdiv 12).tmod 4) = f) → insideOf k = (⟨1 + k.tmod 2, 10 + (k.tdiv 2).tmod 3, 100, 77, 80 + (k.tdiv 6).tmod 2, if 1 + k.tmod 2 = 2 then f else 0⟩ : PktS) := fun f hf => by
    unfold insideOf
    split
    · rename_i h
      rw [hf h]
    · rfl
  refine fn_intro tabOk Tryz.func129 (by kernel_rfl) rfl Tryz.ntmps129 (Nat.le_of_ble_eq_true rfl) ?_
  have hS := St.start w No
  (conv => whnf)
  refine hS.new (fun b1 w1 hb1 hS => ?_)
  repeat' ((conv => whnf); first | refine RetC.mk ?_ | refine NzC.mk (by decide) ?_ | refine RngC.mk (by omega) (by omega) ?_ | refine IdxC.mk (by omega) (by omega) ?_ | refine hS.new (fun b2 w3 hb2 hS => ?_) | refine brD (fun _ => ?_) (fun _ => ?_) | refine brND (fun _ => ?_) (fun _ => ?_) | refine brN (fun _ => ?_) (fun _ => ?_) | refine brI (fun _ => ?_) (fun _ => ?_))
  refine hS.st 1 rfl (Nat.le_of_ble_eq_true rfl) rfl (fun w4 hS => ?_)
  (conv => whnf)
  refine hS.ld 1 rfl rfl ?_
  (conv => whnf)
  refine brD (fun h2t => ?_) (fun h2t => ?_)
  case refine_2 =>
    rw [hfin 0 (fun h => absurd h h2t), if_neg h2t]
    (conv => whnf)
    refine hS.laX 1 rfl rfl ?_
    (conv => whnf)
    refine hS.st 0 rfl (Nat.le_of_ble_eq_true rfl) rfl (fun w5 hS => ?_)
    (conv => whnf)
    refine hS.laX 0 rfl rfl ?_
    repeat' ((conv => whnf); first | refine RetC.mk ?_ | refine NzC.mk (by decide) ?_ | refine RngC.mk (by omega) (by omega) ?_ | refine IdxC.mk (by omega) (by omega) ?_ | refine brD (fun _ => ?_) (fun _ => ?_) | refine brND (fun _ => ?_) (fun _ => ?_) | refine brN (fun _ => ?_) (fun _ => ?_) | refine brI (fun _ => ?_) (fun _ => ?_))
    exact ⟨rfl, hS.ext⟩
  (conv => whnf)
  refine hS.lit Tryz.underlying62 (sz := 1) (by kernel_rfl) (z := .int .i64 0) (by kernel_rfl) rfl rfl (cs := [.int .i64 1, .int .i64 2, .int .i64 6, .int .i64 8]) (by rfl) (fun b3 w5 hb3 hS => ?_)
  (conv => whnf)
  refine NzC.mk (by decide) ?_
  refine RngC.mk (by omega) (by omega) ?_
  (conv => whnf)
  refine NzC.mk (by decide) ?_
  (conv => whnf)
  rcases h12 with h12 | h12 | h12 | h12
  · skip
    rw [h12] at hfin ⊢
    refine IdxC.mk (by decide) (by decide) ?_
    (conv => whnf)
    refine hS.ld 2 rfl (v := .int .i64 1) rfl ?_
    (conv => whnf)
    refine hS.st 1 rfl (Nat.le_of_ble_eq_true rfl) rfl (fun w6 hS => ?_)
    (conv => whnf)
    refine hS.laX 1 rfl rfl ?_
    (conv => whnf)
    refine hS.st 0 rfl (Nat.le_of_ble_eq_true rfl) rfl (fun w7 hS => ?_)
    (conv => whnf)
    refine hS.laX 0 rfl rfl ?_
    repeat' ((conv => whnf); first | refine RetC.mk ?_ | refine NzC.mk (by decide) ?_ | refine RngC.mk (by omega) (by omega) ?_ | refine IdxC.mk (by omega) (by omega) ?_ | refine brD (fun _ => ?_) (fun _ => ?_) | refine brND (fun _ => ?_) (fun _ => ?_) | refine brN (fun _ => ?_) (fun _ => ?_) | refine brI (fun _ => ?_) (fun _ => ?_))
    rw [hfin 1 (fun _ => rfl), if_pos h2t]
    exact ⟨rfl, hS.ext⟩
  · skip
    rw [h12] at hfin ⊢
    refine IdxC.mk (by decide) (by decide) ?_
    (conv => whnf)
    refine hS.ld 2 rfl (v := .int .i64 2) rfl ?_
    (conv => whnf)
    refine hS.st 1 rfl (Nat.le_of_ble_eq_true rfl) rfl (fun w6 hS => ?_)
    (conv => whnf)
    refine hS.laX 1 rfl rfl ?_
    (conv => whnf)
    refine hS.st 0 rfl (Nat.le_of_ble_eq_true rfl) rfl (fun w7 hS => ?_)
    (conv => whnf)
    refine hS.laX 0 rfl rfl ?_
    repeat' ((conv => whnf); first | refine RetC.mk ?_ | refine NzC.mk (by decide) ?_ | refine RngC.mk (by omega) (by omega) ?_ | refine IdxC.mk (by omega) (by omega) ?_ | refine brD (fun _ => ?_) (fun _ => ?_) | refine brND (fun _ => ?_) (fun _ => ?_) | refine brN (fun _ => ?_) (fun _ => ?_) | refine brI (fun _ => ?_) (fun _ => ?_))
    rw [hfin 2 (fun _ => rfl), if_pos h2t]
    exact ⟨rfl, hS.ext⟩
  · skip
    rw [h12] at hfin ⊢
    refine IdxC.mk (by decide) (by decide) ?_
    (conv => whnf)
    refine hS.ld 2 rfl (v := .int .i64 6) rfl ?_
    (conv => whnf)
    refine hS.st 1 rfl (Nat.le_of_ble_eq_true rfl) rfl (fun w6 hS => ?_)
    (conv => whnf)
    refine hS.laX 1 rfl rfl ?_
    (conv => whnf)
    refine hS.st 0 rfl (Nat.le_of_ble_eq_true rfl) rfl (fun w7 hS => ?_)
    (conv => whnf)
    refine hS.laX 0 rfl rfl ?_
    repeat' ((conv => whnf); first | refine RetC.mk ?_ | refine NzC.mk (by decide) ?_ | refine RngC.mk (by omega) (by omega) ?_ | refine IdxC.mk (by omega) (by omega) ?_ | refine brD (fun _ => ?_) (fun _ => ?_) | refine brND (fun _ => ?_) (fun _ => ?_) | refine brN (fun _ => ?_) (fun _ => ?_) | refine brI (fun _ => ?_) (fun _ => ?_))
    rw [hfin 6 (fun _ => rfl), if_pos h2t]
    exact ⟨rfl, hS.ext⟩
  · skip
    rw [h12] at hfin ⊢
    refine IdxC.mk (by decide) (by decide) ?_
    (conv => whnf)
    refine hS.ld 2 rfl (v := .int .i64 8) rfl ?_
    (conv => whnf)
    refine hS.st 1 rfl (Nat.le_of_ble_eq_true rfl) rfl (fun w6 hS => ?_)
    (conv => whnf)
    refine hS.laX 1 rfl rfl ?_
    (conv => whnf)
    refine hS.st 0 rfl (Nat.le_of_ble_eq_true rfl) rfl (fun w7 hS => ?_)
    (conv => whnf)
    refine hS.laX 0 rfl rfl ?_
    repeat' ((conv => whnf); first | refine RetC.mk ?_ | refine NzC.mk (by decide) ?_ | refine RngC.mk (by omega) (by omega) ?_ | refine IdxC.mk (by omega) (by omega) ?_ | refine brD (fun _ => ?_) (fun _ => ?_) | refine brND (fun _ => ?_) (fun _ => ?_) | refine brN (fun _ => ?_) (fun _ => ?_) | refine brI (fun _ => ?_) (fun _ => ?_))
    rw [hfin 8 (fun _ => rfl), if_pos h2t]
    exact ⟨rfl, hS.ext⟩
theorem rpoutside_ok (k : Int) (h0 : 0 ≤ k) (hk : k ≤ 9223372036854775807) (w : World) : CallC Tryz.prog 130 #[.int .i64 k] w fun v w' => v = .agg (encPkt (outsideOf k)).toArray ∧ Ext No w w' := by
  have h1 : 0 ≤ k.tdiv 2 ∧ k.tdiv 2 ≤ k ∧ 0 ≤ k.tdiv 4 ∧ k.tdiv 4 ≤ k := by
    rw [Int.tdiv_eq_ediv_of_nonneg h0, Int.tdiv_eq_ediv_of_nonneg h0]
    omega
  have h00 : 0 ≤ k.tmod 2 ∧ k.tmod 2 < 2 := by rw [Int.tmod_eq_emod_of_nonneg h0]; omega
  have h2 : 0 ≤ (k.tdiv 2).tmod 2 ∧ (k.tdiv 2).tmod 2 < 2 := by rw [Int.tmod_eq_emod_of_nonneg h1.1]; omega
  have h6 : 0 ≤ (k.tdiv 4).tmod 48 ∧ (k.tdiv 4).tmod 48 < 48 := by rw [Int.tmod_eq_emod_of_nonneg h1.2.2.1]; omega
  have h12 : (k.tdiv 4).tmod 4 = 0 ∨ (k.tdiv 4).tmod 4 = 1 ∨ (k.tdiv 4).tmod 4 = 2 ∨ (k.tdiv 4).tmod 4 = 3 := by rw [Int.tmod_eq_emod_of_nonneg h1.2.2.1]; omega
  have hfin : ∀ f, (1 + k.tmod 2 = 2 → flagsOf [3, 2, 6, 8] ((k.tdiv 4).tmod 4) = f) → outsideOf k = (⟨1 + k.tmod 2, 77, 80 + (k.tdiv 2).tmod 2, 1, 2000 + (k.tdiv 4).tmod 48, if 1 + k.tmod 2 = 2 then f else 0⟩ : PktS) := fun f hf => by
    unfold outsideOf
    split
    · rename_i h
      rw [hf h]
    · rfl
  refine fn_intro tabOk Tryz.func130 (by kernel_rfl) rfl Tryz.ntmps130 (Nat.le_of_ble_eq_true rfl) ?_
  have hS := St.start w No
  (conv => whnf)
  refine hS.new (fun b1 w1 hb1 hS => ?_)
  repeat' ((conv => whnf); first | refine RetC.mk ?_ | refine NzC.mk (by decide) ?_ | refine RngC.mk (by omega) (by omega) ?_ | refine IdxC.mk (by omega) (by omega) ?_ | refine hS.new (fun b2 w3 hb2 hS => ?_) | refine brD (fun _ => ?_) (fun _ => ?_) | refine brND (fun _ => ?_) (fun _ => ?_) | refine brN (fun _ => ?_) (fun _ => ?_) | refine brI (fun _ => ?_) (fun _ => ?_))
  refine hS.st 1 rfl (Nat.le_of_ble_eq_true rfl) rfl (fun w4 hS => ?_)
  (conv => whnf)
  refine hS.ld 1 rfl rfl ?_
  (conv => whnf)
  refine brD (fun h2t => ?_) (fun h2t => ?_)
  case refine_2 =>
    rw [hfin 0 (fun h => absurd h h2t), if_neg h2t]
    (conv => whnf)
    refine hS.laX 1 rfl rfl ?_
    (conv => whnf)
    refine hS.st 0 rfl (Nat.le_of_ble_eq_true rfl) rfl (fun w5 hS => ?_)
    (conv => whnf)
    refine hS.laX 0 rfl rfl ?_
    repeat' ((conv => whnf); first | refine RetC.mk ?_ | refine NzC.mk (by decide) ?_ | refine RngC.mk (by omega) (by omega) ?_ | refine IdxC.mk (by omega) (by omega) ?_ | refine brD (fun _ => ?_) (fun _ => ?_) | refine brND (fun _ => ?_) (fun _ => ?_) | refine brN (fun _ => ?_) (fun _ => ?_) | refine brI (fun _ => ?_) (fun _ => ?_))
    exact ⟨rfl, hS.ext⟩
  (conv => whnf)
  refine hS.lit Tryz.underlying62 (sz := 1) (by kernel_rfl) (z := .int .i64 0) (by kernel_rfl) rfl rfl (cs := [.int .i64 3, .int .i64 2, .int .i64 6, .int .i64 8]) (by rfl) (fun b3 w5 hb3 hS => ?_)
  (conv => whnf)
  refine NzC.mk (by decide) ?_
  refine RngC.mk (by omega) (by omega) ?_
  (conv => whnf)
  refine NzC.mk (by decide) ?_
  (conv => whnf)
  rcases h12 with h12 | h12 | h12 | h12
  · skip
    rw [h12] at hfin ⊢
    refine IdxC.mk (by decide) (by decide) ?_
    (conv => whnf)
    refine hS.ld 2 rfl (v := .int .i64 3) rfl ?_
    (conv => whnf)
    refine hS.st 1 rfl (Nat.le_of_ble_eq_true rfl) rfl (fun w6 hS => ?_)
    (conv => whnf)
    refine hS.laX 1 rfl rfl ?_
    (conv => whnf)
    refine hS.st 0 rfl (Nat.le_of_ble_eq_true rfl) rfl (fun w7 hS => ?_)
    (conv => whnf)
    refine hS.laX 0 rfl rfl ?_
    repeat' ((conv => whnf); first | refine RetC.mk ?_ | refine NzC.mk (by decide) ?_ | refine RngC.mk (by omega) (by omega) ?_ | refine IdxC.mk (by omega) (by omega) ?_ | refine brD (fun _ => ?_) (fun _ => ?_) | refine brND (fun _ => ?_) (fun _ => ?_) | refine brN (fun _ => ?_) (fun _ => ?_) | refine brI (fun _ => ?_) (fun _ => ?_))
    rw [hfin 3 (fun _ => rfl), if_pos h2t]
    exact ⟨rfl, hS.ext⟩
  · skip
    rw [h12] at hfin ⊢
    refine IdxC.mk (by decide) (by decide) ?_
    (conv => whnf)
    refine hS.ld 2 rfl (v := .int .i64 2) rfl ?_
    (conv => whnf)
    refine hS.st 1 rfl (Nat.le_of_ble_eq_true rfl) rfl (fun w6 hS => ?_)
    (conv => whnf)
    refine hS.laX 1 rfl rfl ?_
    (conv => whnf)
    refine hS.st 0 rfl (Nat.le_of_ble_eq_true rfl) rfl (fun w7 hS => ?_)
    (conv => whnf)
    refine hS.laX 0 rfl rfl ?_
    repeat' ((conv => whnf); first | refine RetC.mk ?_ | refine NzC.mk (by decide) ?_ | refine RngC.mk (by omega) (by omega) ?_ | refine IdxC.mk (by omega) (by omega) ?_ | refine brD (fun _ => ?_) (fun _ => ?_) | refine brND (fun _ => ?_) (fun _ => ?_) | refine brN (fun _ => ?_) (fun _ => ?_) | refine brI (fun _ => ?_) (fun _ => ?_))
    rw [hfin 2 (fun _ => rfl), if_pos h2t]
    exact ⟨rfl, hS.ext⟩
  · skip
    rw [h12] at hfin ⊢
    refine IdxC.mk (by decide) (by decide) ?_
    (conv => whnf)
    refine hS.ld 2 rfl (v := .int .i64 6) rfl ?_
    (conv => whnf)
    refine hS.st 1 rfl (Nat.le_of_ble_eq_true rfl) rfl (fun w6 hS => ?_)
    (conv => whnf)
    refine hS.laX 1 rfl rfl ?_
    (conv => whnf)
    refine hS.st 0 rfl (Nat.le_of_ble_eq_true rfl) rfl (fun w7 hS => ?_)
    (conv => whnf)
    refine hS.laX 0 rfl rfl ?_
    repeat' ((conv => whnf); first | refine RetC.mk ?_ | refine NzC.mk (by decide) ?_ | refine RngC.mk (by omega) (by omega) ?_ | refine IdxC.mk (by omega) (by omega) ?_ | refine brD (fun _ => ?_) (fun _ => ?_) | refine brND (fun _ => ?_) (fun _ => ?_) | refine brN (fun _ => ?_) (fun _ => ?_) | refine brI (fun _ => ?_) (fun _ => ?_))
    rw [hfin 6 (fun _ => rfl), if_pos h2t]
    exact ⟨rfl, hS.ext⟩
  · skip
    rw [h12] at hfin ⊢
    refine IdxC.mk (by decide) (by decide) ?_
    (conv => whnf)
    refine hS.ld 2 rfl (v := .int .i64 8) rfl ?_
    (conv => whnf)
    refine hS.st 1 rfl (Nat.le_of_ble_eq_true rfl) rfl (fun w6 hS => ?_)
    (conv => whnf)
    refine hS.laX 1 rfl rfl ?_
    (conv => whnf)
    refine hS.st 0 rfl (Nat.le_of_ble_eq_true rfl) rfl (fun w7 hS => ?_)
    (conv => whnf)
    refine hS.laX 0 rfl rfl ?_
    repeat' ((conv => whnf); first | refine RetC.mk ?_ | refine NzC.mk (by decide) ?_ | refine RngC.mk (by omega) (by omega) ?_ | refine IdxC.mk (by omega) (by omega) ?_ | refine brD (fun _ => ?_) (fun _ => ?_) | refine brND (fun _ => ?_) (fun _ => ?_) | refine brN (fun _ => ?_) (fun _ => ?_) | refine brI (fun _ => ?_) (fun _ => ?_))
    rw [hfin 8 (fun _ => rfl), if_pos h2t]
    exact ⟨rfl, hS.ext⟩
end
end Go.Proofs.YtoaghhcjlfiflaaGreatDoor
