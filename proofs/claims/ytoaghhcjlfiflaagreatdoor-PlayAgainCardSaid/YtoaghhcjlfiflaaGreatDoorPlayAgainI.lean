/-
  Texts of this claim, joined: WorldG, Play, PlayB, PlayC, PlayD, BornW, RefHear, RefNum, RefSum, RefByt, RefBytW, RefOpen.
-/
import Derived.Test.YtoaghhcjlfiflaaGreatDoorPlayAgainH

/-
  Package world, walked: rules anew; a new world.
-/
namespace Go.Proofs.YtoaghhcjlfiflaaGreatDoor
open Go Ev
section
variable {w w' : World} {X : WorldA} {W : WorldS} {E : Nat → Addr} {q m : Nat}
theorem src_turns {H H' : List Ent} {b : Nat} (h : ¬ inF H b) (hb : b < w.heap.size) (k : Turns w w' H H') : ¬ inF H' b := by
  rintro ⟨e, he, hbe⟩
  rcases k.foot e he b hbe with h1 | h1
  · exact h h1
  · omega
theorem half_inF {n : Int} (hn : n = 0 ∨ n = 1) {b : Nat} (h : inF (halfH X W n) b) : inF (worldH X W) b := by
  refine inF_perm (view_perm X W hn).symm ?_
  rw [view_half]
  exact inF_app.2 (.inl h)
def NodeA.rul (A : NodeA) (ra : Option Addr) (rc : Nat) : NodeA := { A with ra := ra, rc := rc }
theorem wrule1_ok {G : RuleS → Prop} {a : Option Addr} {c l : Nat} {xs : List RuleS} {n : Int} {N : NodeS} (hn : n = 0 ∨ n = 1) (hN : (W.side n).node = some N) (hH : Has w (worldH X W)) (hx : Slc w 5 encRule G a l xs) (hl : l ≤ 1000) (hsrc : 0 < l → ∀ b0 o0, a = some ⟨b0, o0, none⟩ → ¬ inF (worldH X W) b0) (hE : Errs w E q insErrs) (h0 : (faultL xs).1 = 0) :
    CallC Tryz.prog 98 #[.pointer (some ⟨(X.side n).A.n, 0, none⟩), .slice a l c] w fun _ w' => ∃ ra rc, Turns w w' (worldH X W) (worldH (X.setSide n ⟨(X.side n).s, (X.side n).A.rul ra rc⟩) (W.setSide n ⟨some { N with rules := xs }, (W.side n).byt⟩)) := by
  have hV := hH.perm (view_perm X W hn)
  rw [view_half] at hV
  have hHf := hV.left
  have hS := hHf.start
  have hT : ∀ {w'} {ra rc}, Turns w w' (halfH X W n) (fixH X W ⟨(X.side n).s, (X.side n).A.rul ra rc⟩ (X.side (1 - n)) ⟨some { N with rules := xs }, (W.side n).byt⟩ (W.side (1 - n)) ++ nodeB ((X.side n).A.rul ra rc) { N with rules := xs } (W.side n).byt) → Turns w w' (worldH X W) (worldH (X.setSide n ⟨(X.side n).s, (X.side n).A.rul ra rc⟩) (W.setSide n ⟨some { N with rules := xs }, (W.side n).byt⟩)) := fun {w'} {ra} {rc} k => Turns.side hH hn (Y := ⟨(X.side n).s, (X.side n).A.rul ra rc⟩) (s := ⟨some { N with rules := xs }, (W.side n).byt⟩) rfl k
  have hsr : 0 < l → ∀ b0 o0, a = some ⟨b0, o0, none⟩ → ¬ inF (nodeH (X.side n).A N) b0 := fun h b0 o0 ha hb => hsrc h b0 o0 ha (half_inF hn (by
    rw [half_up hN]
    exact inF_app.2 (.inr (nodeB_H hb))))
  rw [half_up hN] at hS hT hHf
  refine (nrules_ok (A := (X.side n).A) (N := N) hx hl hHf.right.left (hE.sub rfl) hsr).mono ?_
  rintro v w' ⟨_, ra, rc, hk⟩
  rw [if_pos h0] at hk
  have hS2 := St.callAt (A := fixH X W (X.side n) (X.side (1 - n)) ⟨some N, (W.side n).byt⟩ (W.side (1 - n))) (B := [_]) hS hk
  exact ⟨ra, rc, hT (St.turns hS2)⟩
/-- Rules anew for so many sides. -/
def WorldS.ruleK (W : WorldS) (l : List RuleS) : Nat → WorldS
  | 0 => { W with rules := l }
  | 1 => { W with rules := l, a := W.a.ruled l }
  | _ => W.rule l
theorem ruled_some {s : SideS} {N : NodeS} {l : List RuleS} (h : s.node = some N) : s.ruled l = ⟨some { N with rules := l }, s.byt⟩ := by
  unfold SideS.ruled
  rw [h]
  rfl
theorem ruled_none {s : SideS} {l : List RuleS} (h : s.node = none) : s.ruled l = s := by
  obtain ⟨x, y⟩ := s
  dsimp only at h
  subst h
  rfl
theorem wrules_ok {G : RuleS → Prop} {a : Option Addr} {c l : Nat} {xs : List RuleS} (hx : Slc w 5 encRule G a l xs) (hl : l ≤ 1000) (hsrc : 0 < l → ∀ b0 o0, a = some ⟨b0, o0, none⟩ → ¬ inF (worldH X W) b0) (h : Stands E q m w X W) :
    CallC Tryz.prog 51 #[.pointer (some ⟨X.w, 0, none⟩), .slice a l c] w fun v w' => FaultV E w w' v (faultL xs).1 (faultL xs).2 ∧ ∃ X', X'.w = X.w ∧ Turns w w' (worldH X W) (worldH X' (if (faultL xs).1 = 0 then W.rule xs else W)) := by
  have hlx := hx.len
  refine fn_intro tabOk Tryz.func51 (by kernel_rfl) rfl Tryz.ntmps51 (Nat.le_of_ble_eq_true rfl) ?_
  (conv => whnf)
  refine (rcheck_ok hx (h.errs.sub rfl)).mono ?_
  rintro v w1 ⟨hF, hx1⟩
  by_cases h0 : (faultL xs).1 = 0
  case neg =>
    rw [if_neg h0]
    obtain ⟨j, hj⟩ : ∃ j, (faultL xs).1 = j + 1 := ⟨(faultL xs).1 - 1, by omega⟩
    rw [hj] at hF ⊢
    rcases id hF with ⟨_, rfl⟩ | ⟨_, _, f, rfl, _⟩
    · repeat' ((conv => whnf); first | refine RetC.mk ?_ | refine NzC.mk (by decide) ?_ | refine RngC.mk (by omega) (by omega) ?_ | refine IdxC.mk (by omega) (by omega) ?_ | refine brD (fun _ => ?_) (fun _ => ?_) | refine brND (fun _ => ?_) (fun _ => ?_) | refine brN (fun _ => ?_) (fun _ => ?_) | refine brI (fun _ => ?_) (fun _ => ?_))
      exact ⟨hF, X, rfl, Turns.of_no h.has hx1⟩
    · repeat' ((conv => whnf); first | refine RetC.mk ?_ | refine NzC.mk (by decide) ?_ | refine RngC.mk (by omega) (by omega) ?_ | refine IdxC.mk (by omega) (by omega) ?_ | refine brD (fun _ => ?_) (fun _ => ?_) | refine brND (fun _ => ?_) (fun _ => ?_) | refine brN (fun _ => ?_) (fun _ => ?_) | refine brI (fun _ => ?_) (fun _ => ?_))
      exact ⟨hF, X, rfl, Turns.of_no h.has hx1⟩
  rw [if_pos h0]
  obtain rfl : v = .nilIface := by
    rw [h0] at hF
    rcases hF with ⟨_, h⟩ | ⟨_, h, _⟩
    · exact h
    · exact absurd h (by decide)
  have hat : (faultL xs).2 = -1 := by
    rcases hF with ⟨h, _⟩ | ⟨_, h, _⟩
    · exact h
    · omega
  clear hF
  have hS := h.fix.1.start.no hx1
  (conv => whnf)
  refine (rclone_ok (hx.no hx1) hl).mono ?_
  rintro v w2 ⟨a2, c2, rfl, hx2, ho, hf⟩
  replace hS := hS.made hx2 ownL_local ho (fun g hg => hf g (by simpa [ownL, own] using hg))
  clear hx1 hx2 ho hf
  (conv => whnf)
  refine hS.st 0 rfl (Nat.le_of_ble_eq_true rfl) rfl (fun w3 hS => ?_)
  (conv => whnf)
  refine hS.laX 0 rfl rfl ?_
  have hk3 : Turns w w3 (worldH X W) (worldH { X with ra := a2, rc := c2 } (W.ruleK xs 0)) := by
    refine Turns.fixed h.has ?_ rfl rfl rfl rfl
    have hS2 := hS.sel [0, 1, 2, 7, 4, 5, 6] (by decide)
    rw [← hlx] at hS2
    exact St.turns hS2
  clear hS
  (conv => whnf)
  refine loopR tabOk (fun σ w' q' => ∃ (k : Nat) (X' : WorldA), X'.w = X.w ∧ X'.a.s = X.a.s ∧ X'.b.s = X.b.s ∧ σ = [(22, .int .i64 k), (21, .agg #[.pointer (some ⟨X.a.s, 0, none⟩), .pointer (some ⟨X.b.s, 0, none⟩)]), (1, .slice a l c)] ∧ q' = 2 - k ∧ k ≤ 2 ∧ Turns w w' (worldH X W) (worldH X' (W.ruleK xs k)))
    (σ' := [(22, .int .i64 ((0 : Nat) : Int)), (21, .agg #[.pointer (some ⟨X.a.s, 0, none⟩), .pointer (some ⟨X.b.s, 0, none⟩)]), (1, .slice a l c)]) (n := 2) ⟨rfl, rfl, rfl, trivial⟩ ⟨0, { X with ra := a2, rc := c2 }, rfl, rfl, rfl, rfl, rfl, Nat.zero_le _, hk3⟩ ?_
  clear hk3
  rintro _ w4 q' ⟨k, X', hw, ha, hb, rfl, rfl, hk, hT⟩
  have hsr2 : 0 < l → ∀ b0 o0, a = some ⟨b0, o0, none⟩ → ¬ inF (worldH X' (W.ruleK xs k)) b0 := fun h1 b0 o0 h2 => by
    obtain ⟨b1, o1, x, _, _, h3, h4, _⟩ := hx.at h1
    rw [h2] at h3
    simp only [Option.some.injEq, Addr.mk.injEq] at h3
    obtain ⟨rfl, _⟩ := h3
    exact src_turns (hsrc h1 _ _ h2) h4 hT
  have hE := h.errs.turns h.high hT
  have hx4 : Slc w4 5 encRule G a l xs := hx.extN hT.ext hsrc
  (conv => whnf)
  refine brD (fun h3 => ?_) (fun h3 => ?_)
  · have hk2 : k = 0 ∨ k = 1 := by omega
    rcases hk2 with rfl | rfl
    · (conv => whnf)
      refine PureC.of (v := .pointer (some ⟨X.a.s, 0, none⟩)) (fun w => by kernel_rfl) ?_
      have hS := hT.has.start
      cases hN : W.a.node with
      | none =>
        (conv => whnf)
        refine hS.ld 1 (b := X.a.s) (t := 101) (cs := encSide X'.a W.a) (by rw [← ha]; rfl) (v := .pointer none) (by rw [encSide_none hN]; rfl) ?_
        (conv => whnf)
        refine RngC.mk (by omega) (by omega) ?_
        (conv => whnf)
        refine LoopE.mk ⟨_, [(22, .int .i64 ((1 : Nat) : Int)), (21, _), (1, _)], ?_, ⟨rfl, rfl, rfl, trivial⟩, ⟨1, X', hw, ha, hb, rfl, rfl, by omega, by rw [show W.ruleK xs 1 = W.ruleK xs 0 by show ({ W with rules := xs, a := W.a.ruled xs } : WorldS) = { W with rules := xs }; rw [ruled_none hN]]; exact hT⟩⟩
        omega
      | some N =>
        (conv => whnf)
        refine hS.ld 1 (b := X.a.s) (t := 101) (cs := encSide X'.a W.a) (by rw [← ha]; rfl) (v := .pointer (some ⟨X'.a.A.n, 0, none⟩)) (by rw [encSide_some hN]; rfl) ?_
        (conv => whnf)
        refine hS.ld 1 (b := X.a.s) (t := 101) (cs := encSide X'.a W.a) (by rw [← ha]; rfl) (v := .pointer (some ⟨X'.a.A.n, 0, none⟩)) (by rw [encSide_some hN]; rfl) ?_
        (conv => whnf)
        refine (wrule1_ok (n := 0) (X := X') (W := W.ruleK xs 0) (.inl rfl) hN hT.has hx4 hl hsr2 hE h0).mono ?_
        rintro v w5 ⟨ra, rc, hk5⟩
        have hT2 := hT.trans hk5
        (conv => whnf)
        refine RngC.mk (by omega) (by omega) ?_
        (conv => whnf)
        refine LoopE.mk ⟨_, [(22, .int .i64 ((1 : Nat) : Int)), (21, _), (1, _)], ?_, ⟨rfl, rfl, rfl, trivial⟩, ⟨1, X'.setSide 0 ⟨(X'.side 0).s, (X'.side 0).A.rul ra rc⟩, hw, ha, hb, rfl, rfl, by omega, by rw [show W.ruleK xs 1 = (W.ruleK xs 0).setSide 0 ⟨some { N with rules := xs }, ((W.ruleK xs 0).side 0).byt⟩ by show ({ W with rules := xs, a := W.a.ruled xs } : WorldS) = _; rw [ruled_some hN]; rfl]; exact hT2⟩⟩
        omega
    · (conv => whnf)
      refine PureC.of (v := .pointer (some ⟨X.b.s, 0, none⟩)) (fun w => by kernel_rfl) ?_
      have hS := hT.has.start
      cases hN : W.b.node with
      | none =>
        (conv => whnf)
        refine hS.ld 2 (b := X.b.s) (t := 101) (cs := encSide X'.b W.b) (by rw [← hb]; rfl) (v := .pointer none) (by rw [encSide_none hN]; rfl) ?_
        (conv => whnf)
        refine RngC.mk (by omega) (by omega) ?_
        (conv => whnf)
        refine LoopE.mk ⟨_, [(22, .int .i64 ((2 : Nat) : Int)), (21, _), (1, _)], ?_, ⟨rfl, rfl, rfl, trivial⟩, ⟨2, X', hw, ha, hb, rfl, rfl, by omega, by rw [show W.ruleK xs 2 = W.ruleK xs 1 by show ({ W with rules := xs, a := W.a.ruled xs, b := W.b.ruled xs } : WorldS) = { W with rules := xs, a := W.a.ruled xs }; rw [ruled_none hN]]; exact hT⟩⟩
        omega
      | some N =>
        (conv => whnf)
        refine hS.ld 2 (b := X.b.s) (t := 101) (cs := encSide X'.b W.b) (by rw [← hb]; rfl) (v := .pointer (some ⟨X'.b.A.n, 0, none⟩)) (by rw [encSide_some hN]; rfl) ?_
        (conv => whnf)
        refine hS.ld 2 (b := X.b.s) (t := 101) (cs := encSide X'.b W.b) (by rw [← hb]; rfl) (v := .pointer (some ⟨X'.b.A.n, 0, none⟩)) (by rw [encSide_some hN]; rfl) ?_
        (conv => whnf)
        refine (wrule1_ok (n := 1) (X := X') (W := W.ruleK xs 1) (.inr rfl) hN hT.has hx4 hl hsr2 hE h0).mono ?_
        rintro v w5 ⟨ra, rc, hk5⟩
        have hT2 := hT.trans hk5
        (conv => whnf)
        refine RngC.mk (by omega) (by omega) ?_
        (conv => whnf)
        refine LoopE.mk ⟨_, [(22, .int .i64 ((2 : Nat) : Int)), (21, _), (1, _)], ?_, ⟨rfl, rfl, rfl, trivial⟩, ⟨2, X'.setSide 1 ⟨(X'.side 1).s, (X'.side 1).A.rul ra rc⟩, hw, ha, hb, rfl, rfl, by omega, by rw [show W.ruleK xs 2 = (W.ruleK xs 1).setSide 1 ⟨some { N with rules := xs }, ((W.ruleK xs 1).side 1).byt⟩ by show ({ W with rules := xs, a := W.a.ruled xs, b := W.b.ruled xs } : WorldS) = _; rw [ruled_some hN]; rfl]; exact hT2⟩⟩
        omega
  · obtain rfl : k = 2 := by omega
    repeat' ((conv => whnf); first | refine RetC.mk ?_ | refine NzC.mk (by decide) ?_ | refine RngC.mk (by omega) (by omega) ?_ | refine IdxC.mk (by omega) (by omega) ?_ | refine brD (fun _ => ?_) (fun _ => ?_) | refine brND (fun _ => ?_) (fun _ => ?_) | refine brN (fun _ => ?_) (fun _ => ?_) | refine brI (fun _ => ?_) (fun _ => ?_))
    rw [h0, hat]
    exact ⟨.inl ⟨rfl, rfl⟩, X', hw, hT⟩
theorem wnew_bad {G : RuleS → Prop} {a : Option Addr} {n c : Nat} {xs : List RuleS} (hx : Slc w 5 encRule G a n xs) (hE : Errs w E q insErrs) (h0 : (faultL xs).1 ≠ 0) :
    CallC Tryz.prog 11 #[.slice a n c] w fun v w' => (∃ e, v = .tuple #[.pointer none, e] ∧ FaultV E w w' e (faultL xs).1 (faultL xs).2) ∧ Ext No w w' := by
  refine fn_intro tabOk Tryz.func11 (by kernel_rfl) rfl Tryz.ntmps11 (Nat.le_of_ble_eq_true rfl) ?_
  (conv => whnf)
  refine (rcheck_ok hx (hE.sub rfl)).mono ?_
  rintro v w1 ⟨hF, hx1⟩
  obtain ⟨j, hj⟩ : ∃ j, (faultL xs).1 = j + 1 := ⟨(faultL xs).1 - 1, by omega⟩
  rw [hj] at hF ⊢
  rcases id hF with ⟨_, rfl⟩ | ⟨_, _, f, rfl, _⟩
  · repeat' ((conv => whnf); first | refine RetC.mk ?_ | refine NzC.mk (by decide) ?_ | refine RngC.mk (by omega) (by omega) ?_ | refine IdxC.mk (by omega) (by omega) ?_ | refine brD (fun _ => ?_) (fun _ => ?_) | refine brND (fun _ => ?_) (fun _ => ?_) | refine brN (fun _ => ?_) (fun _ => ?_) | refine brI (fun _ => ?_) (fun _ => ?_))
    exact ⟨⟨_, rfl, hF⟩, hx1⟩
  · repeat' ((conv => whnf); first | refine RetC.mk ?_ | refine NzC.mk (by decide) ?_ | refine RngC.mk (by omega) (by omega) ?_ | refine IdxC.mk (by omega) (by omega) ?_ | refine brD (fun _ => ?_) (fun _ => ?_) | refine brND (fun _ => ?_) (fun _ => ?_) | refine brN (fun _ => ?_) (fun _ => ?_) | refine brI (fun _ => ?_) (fun _ => ?_))
    exact ⟨⟨_, rfl, hF⟩, hx1⟩
def bornCells (s0 s1 : Option Addr) (a : Option Addr) (n c : Nat) : List Value := [.pointer s0, .pointer s1, .slice a n c, .slice none 0 0, .int .i64 (-1), .int .i64 0, .slice none 0 0]
/-- A world half made: so many of its sides. -/
def madeH (bw : Nat) (a : Option Addr) (c : Nat) (xs : List RuleS) (N : Int → NodeS) (B : Int → BytS) (Y Z : SideA) : Nat → List Ent
  | 0 => [blk bw 96 (bornCells none none a xs.length c), ownL 92 5 encRule (.slice a xs.length c) xs]
  | 1 => [blk bw 96 (bornCells (some ⟨Y.s, 0, none⟩) none a xs.length c), ownL 92 5 encRule (.slice a xs.length c) xs, blk Y.s 101 [.pointer (some ⟨Y.A.n, 0, none⟩), .pointer (some ⟨Y.A.b, 0, none⟩)]] ++ nodeB Y.A (N 0) (B 0)
  | _ => [blk bw 96 (bornCells (some ⟨Y.s, 0, none⟩) (some ⟨Z.s, 0, none⟩) a xs.length c), ownL 92 5 encRule (.slice a xs.length c) xs, blk Y.s 101 [.pointer (some ⟨Y.A.n, 0, none⟩), .pointer (some ⟨Y.A.b, 0, none⟩)], blk Z.s 101 [.pointer (some ⟨Z.A.n, 0, none⟩), .pointer (some ⟨Z.A.b, 0, none⟩)]] ++ (nodeB Y.A (N 0) (B 0) ++ nodeB Z.A (N 1) (B 1))
theorem wnew_ok {G : RuleS → Prop} {a : Option Addr} {n c : Nat} {xs : List RuleS} (hx : Slc w 5 encRule G a n xs) (hn : n ≤ 1000) (hE : Errs w E q insErrs) (hq : q ≤ w.heap.size) (h0 : (faultL xs).1 = 0) :
    CallC Tryz.prog 11 #[.slice a n c] w fun v w' => ∃ X, v = .tuple #[.pointer (some ⟨X.w, 0, none⟩), .nilIface] ∧ Ext No w w' ∧ Stands E q 0 w' X (.born xs) ∧ ∀ b, inF (worldH X (.born xs)) b → w.heap.size ≤ b := by
  obtain ⟨hb0, hb1, hok⟩ := WOk.born (fault_good.1 h0)
  have hl := hx.len
  have hby : BOk by0 := ⟨by simp [by0], by decide, by decide⟩
  refine fn_intro tabOk Tryz.func11 (by kernel_rfl) rfl Tryz.ntmps11 (Nat.le_of_ble_eq_true rfl) ?_
  have hS := St.start w No
  (conv => whnf)
  refine (rcheck_ok hx (hE.sub rfl)).mono ?_
  rintro v w1 ⟨hF, hx1⟩
  obtain rfl : v = .nilIface := by
    rw [h0] at hF
    rcases hF with ⟨_, h⟩ | ⟨_, h, _⟩
    · exact h
    · exact absurd h (by decide)
  clear hF
  replace hS := hS.no hx1
  (conv => whnf)
  refine (rclone_ok (hx.no hS.ext) hn).mono ?_
  rintro v w2 ⟨a2, c2, rfl, hx2, ho, hf⟩
  replace hS := hS.made hx2 ownL_local ho (fun g hg => hf g (by simpa [ownL, own] using hg))
  clear hx1 hx2 ho hf
  (conv => whnf)
  refine hS.new (fun bw w3 hbw hS => ?_)
  replace hS := hS.sel [1, 0] (by decide)
  rw [← hl] at hS
  replace hS : St w No w3 (madeH bw a2 c2 xs (fun i => (newN i by0 xs).2.1) (fun i => (newN i by0 xs).2.2) ⟨0, ⟨0, 0, 0, 0, 0, 0, 0, none, 0⟩⟩ ⟨0, ⟨0, 0, 0, 0, 0, 0, 0, none, 0⟩⟩ 0) := hS
  generalize hNf : (fun i => (newN i by0 xs).2.1) = N at hS
  generalize hBf : (fun i => (newN i by0 xs).2.2) = B at hS
  have e0 : N 0 = (newN 0 by0 xs).2.1 ∧ B 0 = (newN 0 by0 xs).2.2 ∧ N 1 = (newN 1 by0 xs).2.1 ∧ B 1 = (newN 1 by0 xs).2.2 := by subst hNf hBf; exact ⟨rfl, rfl, rfl, rfl⟩
  have hbn : WorldS.born xs = ⟨⟨some (N 0), B 0⟩, ⟨some (N 1), B 1⟩, xs, [], -1, 0, []⟩ := by subst hNf hBf; rfl
  rw [hbn] at hok ⊢
  clear hNf hBf hbn
  have hsrc : ∀ {b : Nat}, w.heap.size ≤ b → 0 < n → ∀ b0 o0, a = some ⟨b0, o0, none⟩ → b0 ≠ b := fun hb h1 b0 o0 h2 => by
    obtain ⟨b1, o1, x, _, _, h3, h4, _⟩ := hx.at h1
    rw [h2] at h3
    simp only [Option.some.injEq, Addr.mk.injEq] at h3
    obtain ⟨rfl, _⟩ := h3
    omega
  (conv => whnf)
  refine loopR tabOk (fun σ w' q' => ∃ (k : Nat) (Y Z : SideA), σ = [(19, .int .i64 k), (5, .pointer (some ⟨bw, 0, none⟩)), (0, .slice a n c)] ∧ q' = 2 - k ∧ k ≤ 2 ∧ St w No w' (madeH bw a2 c2 xs N B Y Z k))
    (σ' := [(19, .int .i64 ((0 : Nat) : Int)), (5, .pointer (some ⟨bw, 0, none⟩)), (0, .slice a n c)]) (n := 2) ⟨rfl, rfl, rfl, trivial⟩ ⟨0, _, _, rfl, rfl, Nat.zero_le _, hS⟩ ?_
  clear hS
  rintro _ w4 q' ⟨k, Y, Z, rfl, rfl, hk, hS⟩
  (conv => whnf)
  refine brD (fun h3 => ?_) (fun h3 => ?_)
  · have hk2 : k = 0 ∨ k = 1 := by omega
    rcases hk2 with rfl | rfl
    · have hsz := hS.ext.size
      (conv => whnf)
      refine (newBytes_ok _).mono ?_
      rintro v w5 ⟨bb, rfl, hbb, hxb, hB⟩
      replace hS := hS.made hxb (blk_local _ _ _) hB (by simp [blk]; exact ⟨hbb, hB.lt⟩)
      have hwb : w.heap.size ≤ bb := Nat.le_trans hsz hbb
      clear hxb hB
      (conv => whnf)
      refine (nnew_ok 0 (.inl rfl) (hx.no hS.ext) hn h0 (hsrc hwb) (hS.blk 2 rfl) hby rfl ((hE.ext hS.ext fun _ h => h.elim).sub rfl) (Nat.le_trans hq hwb)).mono ?_
      rintro v w6 hnew
      rcases hnew with ⟨_, A, hAb, rfl, hk6⟩ | ⟨h9, _⟩
      case inr => exact absurd hb0 h9
      rw [← e0.1, ← e0.2.1] at hk6
      have hS2 := St.callAt (A := [_, _]) (B := []) hS hk6
      subst hAb
      (conv => whnf)
      refine hS2.new (fun bs w7 hbs hS => ?_)
      (conv => whnf)
      refine IdxC.mk (by decide) (by decide) ?_
      (conv => whnf)
      refine hS.st 0 rfl (Nat.le_of_ble_eq_true rfl) rfl (fun w8 hS => ?_)
      (conv => whnf)
      refine RngC.mk (by omega) (by omega) ?_
      (conv => whnf)
      refine LoopE.mk ⟨_, [(19, .int .i64 ((1 : Nat) : Int)), (5, _), (0, _)], ?_, ⟨rfl, rfl, rfl, trivial⟩, ⟨1, ⟨bs, A⟩, Z, rfl, rfl, by omega, hS.sel [0, 1, 10, 2, 3, 4, 5, 6, 7, 8, 9] (by decide)⟩⟩
      omega
    · have hsz := hS.ext.size
      (conv => whnf)
      refine (newBytes_ok _).mono ?_
      rintro v w5 ⟨bb, rfl, hbb, hxb, hB⟩
      replace hS := hS.made hxb (blk_local _ _ _) hB (by simp [blk]; exact ⟨hbb, hB.lt⟩)
      have hwb : w.heap.size ≤ bb := Nat.le_trans hsz hbb
      clear hxb hB
      (conv => whnf)
      refine (nnew_ok 1 (.inr rfl) (hx.no hS.ext) hn h0 (hsrc hwb) (hS.blk 11 rfl) hby rfl ((hE.ext hS.ext fun _ h => h.elim).sub rfl) (Nat.le_trans hq hwb)).mono ?_
      rintro v w6 hnew
      rcases hnew with ⟨_, A, hAb, rfl, hk6⟩ | ⟨h9, _⟩
      case inr => exact absurd hb1 h9
      rw [← e0.2.2.1, ← e0.2.2.2] at hk6
      have hS2 := St.callAt (A := [_, _, _, _, _, _, _, _, _, _, _]) (B := []) hS hk6
      subst hAb
      (conv => whnf)
      refine hS2.new (fun bs w7 hbs hS => ?_)
      (conv => whnf)
      refine IdxC.mk (by decide) (by decide) ?_
      (conv => whnf)
      refine hS.st 0 rfl (Nat.le_of_ble_eq_true rfl) rfl (fun w8 hS => ?_)
      (conv => whnf)
      refine RngC.mk (by omega) (by omega) ?_
      (conv => whnf)
      refine LoopE.mk ⟨_, [(19, .int .i64 ((2 : Nat) : Int)), (5, _), (0, _)], ?_, ⟨rfl, rfl, rfl, trivial⟩, ⟨2, Y, ⟨bs, A⟩, rfl, rfl, by omega, hS.sel [0, 1, 2, 19, 3, 4, 5, 6, 7, 8, 9, 10, 11, 12, 13, 14, 15, 16, 17, 18] (by decide)⟩⟩
      omega
  · obtain rfl : k = 2 := by omega
    have hS2 := (((hS.addNil 107 5 encNV).add (e := cellsE [] []) cellsE_local (cellsE_nil _) (fun b hb => by simp [cellsE] at hb) (fun f _ b _ hb => by simp [cellsE] at hb)).addNil 64 2 encEv).sel [0, 2, 3, 1, 20, 21, 22, 4, 5, 6, 7, 8, 9, 10, 11, 12, 13, 14, 15, 16, 17, 18, 19] (by decide)
    replace hS2 : St w No w4 (worldH ⟨bw, Y, Z, a2, c2, none, 0, [], none, 0⟩ ⟨⟨some (N 0), B 0⟩, ⟨some (N 1), B 1⟩, xs, [], -1, 0, []⟩) := hS2
    have hfr : ∀ b, inF (worldH ⟨bw, Y, Z, a2, c2, none, 0, [], none, 0⟩ ⟨⟨some (N 0), B 0⟩, ⟨some (N 1), B 1⟩, xs, [], -1, 0, []⟩) b → w.heap.size ≤ b := fun b ⟨e, he, hb⟩ => (hS2.may e he b hb).1.elim (fun h => h.elim) id
    repeat' ((conv => whnf); first | refine RetC.mk ?_ | refine NzC.mk (by decide) ?_ | refine RngC.mk (by omega) (by omega) ?_ | refine IdxC.mk (by omega) (by omega) ?_ | refine brD (fun _ => ?_) (fun _ => ?_) | refine brND (fun _ => ?_) (fun _ => ?_) | refine brN (fun _ => ?_) (fun _ => ?_) | refine brI (fun _ => ?_) (fun _ => ?_))
    exact ⟨⟨bw, Y, Z, a2, c2, none, 0, [], none, 0⟩, rfl, hS2.ext, ⟨hS2.has, hok, hE.ext hS2.ext fun _ h => h.elim, fun b hb => Nat.le_trans hq (hfr b hb)⟩, hfr⟩
end
end Go.Proofs.YtoaghhcjlfiflaaGreatDoor

/-
  Package play, walked: numbers of a play; ticks; a play.
-/
namespace Go.Proofs.YtoaghhcjlfiflaaGreatDoor
open Go Ev
section
variable {w w' : World} {X : WorldA} {W : WorldS} {E : Nat → Addr} {q m : Nat}
theorem pproto_ok (k : Int) (h0 : 0 ≤ k) (w : World) : CallC Tryz.prog 180 #[.int .i64 k] w fun v w' => v = .int .i64 (1 + k.tmod 2) ∧ w = w' := by
  have h2 : k.tmod 2 = 0 ∨ k.tmod 2 = 1 := by rw [Int.tmod_eq_emod_of_nonneg h0]; omega
  refine fn_intro tabOk Tryz.func180 (by kernel_rfl) rfl Tryz.ntmps180 (Nat.le_of_ble_eq_true rfl) ?_
  (conv => whnf)
  refine NzC.mk (by decide) ?_
  rcases h2 with h2 | h2
  all_goals
    rw [h2]
    repeat' ((conv => whnf); first | refine RetC.mk ?_ | refine NzC.mk (by decide) ?_ | refine RngC.mk (by omega) (by omega) ?_ | refine IdxC.mk (by omega) (by omega) ?_ | refine brD (fun _ => ?_) (fun _ => ?_) | refine brND (fun _ => ?_) (fun _ => ?_) | refine brN (fun _ => ?_) (fun _ => ?_) | refine brI (fun _ => ?_) (fun _ => ?_))
    exact ⟨rfl, rfl⟩
theorem pflagged_ok (p : PktS) (f : Int) (w : World) : CallC Tryz.prog 181 #[.agg (encPkt p).toArray, .int .i64 f] w fun v w' => v = .agg (encPkt { p with flags := if p.proto = 2 then f else p.flags }).toArray ∧ Ext No w w' := by
  refine fn_intro tabOk Tryz.func181 (by kernel_rfl) rfl Tryz.ntmps181 (Nat.le_of_ble_eq_true rfl) ?_
  have hS := St.start w No
  (conv => whnf)
  refine hS.new (fun b1 w1 hb1 hS => ?_)
  (conv => whnf)
  refine hS.new (fun b2 w2 hb2 hS => ?_)
  replace hS : St w No w2 [blk b1 36 (encPkt p), blk b2 36 (encPkt noPkt)] := hS
  (conv => whnf)
  refine hS.ld 0 rfl rfl ?_
  (conv => whnf)
  refine brD (fun h => ?_) (fun h => ?_)
  · rw [if_pos h]
    (conv => whnf)
    refine hS.st 0 rfl (Nat.le_of_ble_eq_true rfl) rfl (fun w3 hS => ?_)
    (conv => whnf)
    refine hS.laX 0 rfl rfl ?_
    (conv => whnf)
    refine hS.st 1 rfl (Nat.le_of_ble_eq_true rfl) rfl (fun w4 hS => ?_)
    (conv => whnf)
    refine hS.laX 1 rfl rfl ?_
    repeat' ((conv => whnf); first | refine RetC.mk ?_ | refine NzC.mk (by decide) ?_ | refine RngC.mk (by omega) (by omega) ?_ | refine IdxC.mk (by omega) (by omega) ?_ | refine brD (fun _ => ?_) (fun _ => ?_) | refine brND (fun _ => ?_) (fun _ => ?_) | refine brN (fun _ => ?_) (fun _ => ?_) | refine brI (fun _ => ?_) (fun _ => ?_))
    exact ⟨rfl, hS.ext⟩
  · rw [if_neg h]
    (conv => whnf)
    refine hS.laX 0 rfl rfl ?_
    (conv => whnf)
    refine hS.st 1 rfl (Nat.le_of_ble_eq_true rfl) rfl (fun w4 hS => ?_)
    (conv => whnf)
    refine hS.laX 1 rfl rfl ?_
    repeat' ((conv => whnf); first | refine RetC.mk ?_ | refine NzC.mk (by decide) ?_ | refine RngC.mk (by omega) (by omega) ?_ | refine IdxC.mk (by omega) (by omega) ?_ | refine brD (fun _ => ?_) (fun _ => ?_) | refine brND (fun _ => ?_) (fun _ => ?_) | refine brN (fun _ => ?_) (fun _ => ?_) | refine brI (fun _ => ?_) (fun _ => ?_))
    exact ⟨rfl, hS.ext⟩
theorem pinside_ok (k : Int) (h0 : 0 ≤ k) (hk : k ≤ 9223372036854775807) (w : World) : CallC Tryz.prog 126 #[.int .i64 k] w fun v w' => v = .agg (encPkt (insideOf k)).toArray ∧ Ext No w w' := by
  have h1 : 0 ≤ k.tdiv 2 ∧ k.tdiv 2 ≤ k ∧ 0 ≤ k.tdiv 6 ∧ k.tdiv 6 ≤ k ∧ 0 ≤ k.tdiv 12 ∧ k.tdiv 12 ≤ k := by
    rw [Int.tdiv_eq_ediv_of_nonneg h0, Int.tdiv_eq_ediv_of_nonneg h0, Int.tdiv_eq_ediv_of_nonneg h0]
    omega
  have h2 : 0 ≤ (k.tdiv 2).tmod 3 ∧ (k.tdiv 2).tmod 3 < 3 := by rw [Int.tmod_eq_emod_of_nonneg h1.1]; omega
  have h6 : 0 ≤ (k.tdiv 6).tmod 2 ∧ (k.tdiv 6).tmod 2 < 2 := by rw [Int.tmod_eq_emod_of_nonneg h1.2.2.1]; omega
  have h12 : (k.tdiv 12).tmod 4 = 0 ∨ (k.tdiv 12).tmod 4 = 1 ∨ (k.tdiv 12).tmod 4 = 2 ∨ (k.tdiv 12).tmod 4 = 3 := by rw [Int.tmod_eq_emod_of_nonneg h1.2.2.2.2.1]; omega
  refine fn_intro tabOk Tryz.func126 (by kernel_rfl) rfl Tryz.ntmps126 (Nat.le_of_ble_eq_true rfl) ?_
  have hS := St.start w No
  (conv => whnf)
  refine hS.new (fun b1 w1 hb1 hS => ?_)
  (conv => whnf)
  refine (pproto_ok k h0 _).mono ?_
  rintro v w2 ⟨rfl, rfl⟩
  repeat' ((conv => whnf); first | refine RetC.mk ?_ | refine NzC.mk (by decide) ?_ | refine RngC.mk (by omega) (by omega) ?_ | refine IdxC.mk (by omega) (by omega) ?_ | refine hS.new (fun b2 w3 hb2 hS => ?_) | refine brD (fun _ => ?_) (fun _ => ?_) | refine brND (fun _ => ?_) (fun _ => ?_) | refine brN (fun _ => ?_) (fun _ => ?_) | refine brI (fun _ => ?_) (fun _ => ?_))
  refine hS.st 1 rfl (Nat.le_of_ble_eq_true rfl) rfl (fun w4 hS => ?_)
  have hne := hS.ne 1 0 rfl rfl (by decide)
  (conv => whnf)
  (refine drawS tabOk mixed [] (fun b => b = b1) [0, 1, 2, 3, 4, 5, 6, 7] (by kernel_rfl) ?_; rintro w1 rfl; replace hS := hS.drew)
  have hK := hS.ref (fun b => b = b1)
  (conv => whnf)
  refine hS.laXF 1 rfl rfl hne ?_
  (conv => whnf)
  refine PureC.of (v := .agg #[.int .i64 1, .int .i64 2, .int .i64 6, .int .i64 8]) (fun w => by kernel_rfl) ?_
  (conv => whnf)
  refine NzC.mk (by decide) ?_
  refine RngC.mk (by omega) (by omega) ?_
  (conv => whnf)
  refine NzC.mk (by decide) ?_
  have hfin : ∀ f, flagsOf [1, 2, 6, 8] ((k.tdiv 12).tmod 4) = f → (insideOf k) = { (⟨1 + k.tmod 2, 10 + (k.tdiv 2).tmod 3, 100, 77, 80 + (k.tdiv 6).tmod 2, 0⟩ : PktS) with flags := if 1 + k.tmod 2 = 2 then f else 0 } := fun f hf => by subst hf; rfl
  rcases h12 with h12 | h12 | h12 | h12
  · skip
    rw [h12] at hfin ⊢
    refine PureC.of (v := .int .i64 1) (fun w => by kernel_rfl) ?_
    (conv => whnf)
    refine (pflagged_ok ⟨_, _, _, _, _, _⟩ _ _).mono ?_
    rintro v w5 ⟨rfl, hx⟩
    replace hS := hS.no hx
    replace hK := hK.trans hx.of_no
    refine KeepC.mk hK ?_
    rw [hfin 1 rfl]
    (conv => whnf)
    refine hS.stK hK 0 rfl (Nat.le_of_ble_eq_true rfl) rfl rfl (fun w' hK hS => KeepC.mk hK ?_)
    (conv => whnf)
    refine hS.laX 0 rfl rfl ?_
    repeat' ((conv => whnf); first | refine RetC.mk ?_ | refine NzC.mk (by decide) ?_ | refine RngC.mk (by omega) (by omega) ?_ | refine IdxC.mk (by omega) (by omega) ?_ | refine brD (fun _ => ?_) (fun _ => ?_) | refine brND (fun _ => ?_) (fun _ => ?_) | refine brN (fun _ => ?_) (fun _ => ?_) | refine brI (fun _ => ?_) (fun _ => ?_))
    exact ⟨rfl, hS.ext⟩
  · skip
    rw [h12] at hfin ⊢
    refine PureC.of (v := .int .i64 2) (fun w => by kernel_rfl) ?_
    (conv => whnf)
    refine (pflagged_ok ⟨_, _, _, _, _, _⟩ _ _).mono ?_
    rintro v w5 ⟨rfl, hx⟩
    replace hS := hS.no hx
    replace hK := hK.trans hx.of_no
    refine KeepC.mk hK ?_
    rw [hfin 2 rfl]
    (conv => whnf)
    refine hS.stK hK 0 rfl (Nat.le_of_ble_eq_true rfl) rfl rfl (fun w' hK hS => KeepC.mk hK ?_)
    (conv => whnf)
    refine hS.laX 0 rfl rfl ?_
    repeat' ((conv => whnf); first | refine RetC.mk ?_ | refine NzC.mk (by decide) ?_ | refine RngC.mk (by omega) (by omega) ?_ | refine IdxC.mk (by omega) (by omega) ?_ | refine brD (fun _ => ?_) (fun _ => ?_) | refine brND (fun _ => ?_) (fun _ => ?_) | refine brN (fun _ => ?_) (fun _ => ?_) | refine brI (fun _ => ?_) (fun _ => ?_))
    exact ⟨rfl, hS.ext⟩
  · skip
    rw [h12] at hfin ⊢
    refine PureC.of (v := .int .i64 6) (fun w => by kernel_rfl) ?_
    (conv => whnf)
    refine (pflagged_ok ⟨_, _, _, _, _, _⟩ _ _).mono ?_
    rintro v w5 ⟨rfl, hx⟩
    replace hS := hS.no hx
    replace hK := hK.trans hx.of_no
    refine KeepC.mk hK ?_
    rw [hfin 6 rfl]
    (conv => whnf)
    refine hS.stK hK 0 rfl (Nat.le_of_ble_eq_true rfl) rfl rfl (fun w' hK hS => KeepC.mk hK ?_)
    (conv => whnf)
    refine hS.laX 0 rfl rfl ?_
    repeat' ((conv => whnf); first | refine RetC.mk ?_ | refine NzC.mk (by decide) ?_ | refine RngC.mk (by omega) (by omega) ?_ | refine IdxC.mk (by omega) (by omega) ?_ | refine brD (fun _ => ?_) (fun _ => ?_) | refine brND (fun _ => ?_) (fun _ => ?_) | refine brN (fun _ => ?_) (fun _ => ?_) | refine brI (fun _ => ?_) (fun _ => ?_))
    exact ⟨rfl, hS.ext⟩
  · skip
    rw [h12] at hfin ⊢
    refine PureC.of (v := .int .i64 8) (fun w => by kernel_rfl) ?_
    (conv => whnf)
    refine (pflagged_ok ⟨_, _, _, _, _, _⟩ _ _).mono ?_
    rintro v w5 ⟨rfl, hx⟩
    replace hS := hS.no hx
    replace hK := hK.trans hx.of_no
    refine KeepC.mk hK ?_
    rw [hfin 8 rfl]
    (conv => whnf)
    refine hS.stK hK 0 rfl (Nat.le_of_ble_eq_true rfl) rfl rfl (fun w' hK hS => KeepC.mk hK ?_)
    (conv => whnf)
    refine hS.laX 0 rfl rfl ?_
    repeat' ((conv => whnf); first | refine RetC.mk ?_ | refine NzC.mk (by decide) ?_ | refine RngC.mk (by omega) (by omega) ?_ | refine IdxC.mk (by omega) (by omega) ?_ | refine brD (fun _ => ?_) (fun _ => ?_) | refine brND (fun _ => ?_) (fun _ => ?_) | refine brN (fun _ => ?_) (fun _ => ?_) | refine brI (fun _ => ?_) (fun _ => ?_))
    exact ⟨rfl, hS.ext⟩
theorem poutside_ok (k : Int) (h0 : 0 ≤ k) (hk : k ≤ 9223372036854775807) (w : World) : CallC Tryz.prog 127 #[.int .i64 k] w fun v w' => v = .agg (encPkt (outsideOf k)).toArray ∧ Ext No w w' := by
  have h1 : 0 ≤ k.tdiv 2 ∧ k.tdiv 2 ≤ k ∧ 0 ≤ k.tdiv 4 ∧ k.tdiv 4 ≤ k := by
    rw [Int.tdiv_eq_ediv_of_nonneg h0, Int.tdiv_eq_ediv_of_nonneg h0]
    omega
  have h2 : 0 ≤ (k.tdiv 2).tmod 2 ∧ (k.tdiv 2).tmod 2 < 2 := by rw [Int.tmod_eq_emod_of_nonneg h1.1]; omega
  have h6 : 0 ≤ (k.tdiv 4).tmod 48 ∧ (k.tdiv 4).tmod 48 < 48 := by rw [Int.tmod_eq_emod_of_nonneg h1.2.2.1]; omega
  have h12 : (k.tdiv 4).tmod 4 = 0 ∨ (k.tdiv 4).tmod 4 = 1 ∨ (k.tdiv 4).tmod 4 = 2 ∨ (k.tdiv 4).tmod 4 = 3 := by rw [Int.tmod_eq_emod_of_nonneg h1.2.2.1]; omega
  refine fn_intro tabOk Tryz.func127 (by kernel_rfl) rfl Tryz.ntmps127 (Nat.le_of_ble_eq_true rfl) ?_
  have hS := St.start w No
  (conv => whnf)
  refine hS.new (fun b1 w1 hb1 hS => ?_)
  (conv => whnf)
  refine (pproto_ok k h0 _).mono ?_
  rintro v w2 ⟨rfl, rfl⟩
  repeat' ((conv => whnf); first | refine RetC.mk ?_ | refine NzC.mk (by decide) ?_ | refine RngC.mk (by omega) (by omega) ?_ | refine IdxC.mk (by omega) (by omega) ?_ | refine hS.new (fun b2 w3 hb2 hS => ?_) | refine brD (fun _ => ?_) (fun _ => ?_) | refine brND (fun _ => ?_) (fun _ => ?_) | refine brN (fun _ => ?_) (fun _ => ?_) | refine brI (fun _ => ?_) (fun _ => ?_))
  refine hS.st 1 rfl (Nat.le_of_ble_eq_true rfl) rfl (fun w4 hS => ?_)
  have hne := hS.ne 1 0 rfl rfl (by decide)
  (conv => whnf)
  (refine drawS tabOk mixed [] (fun b => b = b1) [0, 1, 2, 3, 4, 5, 6, 7] (by kernel_rfl) ?_; rintro w1 rfl; replace hS := hS.drew)
  have hK := hS.ref (fun b => b = b1)
  (conv => whnf)
  refine hS.laXF 1 rfl rfl hne ?_
  (conv => whnf)
  refine PureC.of (v := .agg #[.int .i64 3, .int .i64 2, .int .i64 6, .int .i64 8]) (fun w => by kernel_rfl) ?_
  (conv => whnf)
  refine NzC.mk (by decide) ?_
  refine RngC.mk (by omega) (by omega) ?_
  (conv => whnf)
  refine NzC.mk (by decide) ?_
  have hfin : ∀ f, flagsOf [3, 2, 6, 8] ((k.tdiv 4).tmod 4) = f → (outsideOf k) = { (⟨1 + k.tmod 2, 77, 80 + (k.tdiv 2).tmod 2, 1, 2000 + (k.tdiv 4).tmod 48, 0⟩ : PktS) with flags := if 1 + k.tmod 2 = 2 then f else 0 } := fun f hf => by subst hf; rfl
  rcases h12 with h12 | h12 | h12 | h12
  · skip
    rw [h12] at hfin ⊢
    refine PureC.of (v := .int .i64 3) (fun w => by kernel_rfl) ?_
    (conv => whnf)
    refine (pflagged_ok ⟨_, _, _, _, _, _⟩ _ _).mono ?_
    rintro v w5 ⟨rfl, hx⟩
    replace hS := hS.no hx
    replace hK := hK.trans hx.of_no
    refine KeepC.mk hK ?_
    rw [hfin 3 rfl]
    (conv => whnf)
    refine hS.stK hK 0 rfl (Nat.le_of_ble_eq_true rfl) rfl rfl (fun w' hK hS => KeepC.mk hK ?_)
    (conv => whnf)
    refine hS.laX 0 rfl rfl ?_
    repeat' ((conv => whnf); first | refine RetC.mk ?_ | refine NzC.mk (by decide) ?_ | refine RngC.mk (by omega) (by omega) ?_ | refine IdxC.mk (by omega) (by omega) ?_ | refine brD (fun _ => ?_) (fun _ => ?_) | refine brND (fun _ => ?_) (fun _ => ?_) | refine brN (fun _ => ?_) (fun _ => ?_) | refine brI (fun _ => ?_) (fun _ => ?_))
    exact ⟨rfl, hS.ext⟩
  · skip
    rw [h12] at hfin ⊢
    refine PureC.of (v := .int .i64 2) (fun w => by kernel_rfl) ?_
    (conv => whnf)
    refine (pflagged_ok ⟨_, _, _, _, _, _⟩ _ _).mono ?_
    rintro v w5 ⟨rfl, hx⟩
    replace hS := hS.no hx
    replace hK := hK.trans hx.of_no
    refine KeepC.mk hK ?_
    rw [hfin 2 rfl]
    (conv => whnf)
    refine hS.stK hK 0 rfl (Nat.le_of_ble_eq_true rfl) rfl rfl (fun w' hK hS => KeepC.mk hK ?_)
    (conv => whnf)
    refine hS.laX 0 rfl rfl ?_
    repeat' ((conv => whnf); first | refine RetC.mk ?_ | refine NzC.mk (by decide) ?_ | refine RngC.mk (by omega) (by omega) ?_ | refine IdxC.mk (by omega) (by omega) ?_ | refine brD (fun _ => ?_) (fun _ => ?_) | refine brND (fun _ => ?_) (fun _ => ?_) | refine brN (fun _ => ?_) (fun _ => ?_) | refine brI (fun _ => ?_) (fun _ => ?_))
    exact ⟨rfl, hS.ext⟩
  · skip
    rw [h12] at hfin ⊢
    refine PureC.of (v := .int .i64 6) (fun w => by kernel_rfl) ?_
    (conv => whnf)
    refine (pflagged_ok ⟨_, _, _, _, _, _⟩ _ _).mono ?_
    rintro v w5 ⟨rfl, hx⟩
    replace hS := hS.no hx
    replace hK := hK.trans hx.of_no
    refine KeepC.mk hK ?_
    rw [hfin 6 rfl]
    (conv => whnf)
    refine hS.stK hK 0 rfl (Nat.le_of_ble_eq_true rfl) rfl rfl (fun w' hK hS => KeepC.mk hK ?_)
    (conv => whnf)
    refine hS.laX 0 rfl rfl ?_
    repeat' ((conv => whnf); first | refine RetC.mk ?_ | refine NzC.mk (by decide) ?_ | refine RngC.mk (by omega) (by omega) ?_ | refine IdxC.mk (by omega) (by omega) ?_ | refine brD (fun _ => ?_) (fun _ => ?_) | refine brND (fun _ => ?_) (fun _ => ?_) | refine brN (fun _ => ?_) (fun _ => ?_) | refine brI (fun _ => ?_) (fun _ => ?_))
    exact ⟨rfl, hS.ext⟩
  · skip
    rw [h12] at hfin ⊢
    refine PureC.of (v := .int .i64 8) (fun w => by kernel_rfl) ?_
    (conv => whnf)
    refine (pflagged_ok ⟨_, _, _, _, _, _⟩ _ _).mono ?_
    rintro v w5 ⟨rfl, hx⟩
    replace hS := hS.no hx
    replace hK := hK.trans hx.of_no
    refine KeepC.mk hK ?_
    rw [hfin 8 rfl]
    (conv => whnf)
    refine hS.stK hK 0 rfl (Nat.le_of_ble_eq_true rfl) rfl rfl (fun w' hK hS => KeepC.mk hK ?_)
    (conv => whnf)
    refine hS.laX 0 rfl rfl ?_
    repeat' ((conv => whnf); first | refine RetC.mk ?_ | refine NzC.mk (by decide) ?_ | refine RngC.mk (by omega) (by omega) ?_ | refine IdxC.mk (by omega) (by omega) ?_ | refine brD (fun _ => ?_) (fun _ => ?_) | refine brND (fun _ => ?_) (fun _ => ?_) | refine brN (fun _ => ?_) (fun _ => ?_) | refine brI (fun _ => ?_) (fun _ => ?_))
    exact ⟨rfl, hS.ext⟩
end
end Go.Proofs.YtoaghhcjlfiflaaGreatDoor

/-
  Package play, walked: ticks, one number, a play, settling.
-/
namespace Go.Proofs.YtoaghhcjlfiflaaGreatDoor
open Go Ev
section
variable {w w' : World} {X : WorldA} {W : WorldS} {E : Nat → Addr} {q m : Nat}
/-- What a method of a world does. -/
abbrev Does (E : Nat → Addr) (w : World) (X : WorldA) (W : WorldS) (r : Nat × WorldS) (v : Value) (w' : World) : Prop := v = errV E r.1 ∧ ∃ X', X'.w = X.w ∧ Turns w w' (worldH X W) (worldH X' r.2)
theorem pticks_ok (n : Int) (k : Nat) (h : Stands E q m w X W) (hm : m + 34 * k ≤ 40000000) : CallC Tryz.prog 125 #[.pointer (some ⟨X.w, 0, none⟩), .int .i64 n, .int .i64 (k : Int)] w (Does E w X W (W.ticks n k)) := by
  refine fn_intro tabOk Tryz.func125 (by kernel_rfl) rfl Tryz.ntmps125 (Nat.le_of_ble_eq_true rfl) ?_
  (conv => whnf)
  refine loopR tabOk (fun σ w' r => ∃ (i : Nat) (X' : WorldA) (W' : WorldS), σ = [(9, .int .i64 i), (8, .int .i64 (k : Int)), (1, .int .i64 n), (0, .pointer (some ⟨X.w, 0, none⟩))] ∧ r = k - i ∧ i ≤ k ∧ X'.w = X.w ∧ Stands E q (m + 34 * i) w' X' W' ∧ Turns w w' (worldH X W) (worldH X' W') ∧ W.ticks n k = W'.ticks n (k - i))
    (σ' := [(9, .int .i64 ((0 : Nat) : Int)), (8, .int .i64 (k : Int)), (1, .int .i64 n), (0, .pointer (some ⟨X.w, 0, none⟩))]) (n := k) ⟨rfl, rfl, rfl, rfl, trivial⟩ ⟨0, X, W, rfl, rfl, Nat.zero_le _, rfl, h, Turns.refl h.has, rfl⟩ ?_
  rintro _ w1 r ⟨i, X', W', rfl, rfl, hi, hw, hst, hT, hr⟩
  (conv => whnf)
  refine brD (fun h3 => ?_) (fun h3 => ?_)
  · obtain ⟨j, hj⟩ : ∃ j, k - i = j + 1 := ⟨k - i - 1, by omega⟩
    rw [hj] at hr
    (conv => whnf)
    rw [← hw]
    refine (wtick_ok n hst (by omega)).mono ?_
    rintro v w2 ⟨rfl, X2, hw2, hT2⟩
    have hst2 := hst.turns hT2 (hst.ok.tick (by omega) n)
    have hT3 := hT.trans hT2
    cases he : (W'.tick n).1 with
    | zero =>
      have hr2 : W.ticks n k = (W'.tick n).2.ticks n j := by
        rw [hr]
        show (if (W'.tick n).1 ≠ 0 then _ else _) = _
        rw [if_neg (fun h => h he)]
      (conv => whnf)
      refine RngC.mk (by omega) (by omega) ?_
      (conv => whnf)
      refine LoopE.mk ⟨_, [(9, .int .i64 ((i + 1 : Nat) : Int)), (8, _), (1, _), (0, _)], ?_, ⟨rfl, rfl, rfl, rfl, trivial⟩, ⟨i + 1, X2, (W'.tick n).2, rfl, rfl, by omega, hw2, hst2, hT3, by rw [hr2]; congr 1; omega⟩⟩
      omega
    | succ e =>
      have hr2 : W.ticks n k = W'.tick n := by
        rw [hr]
        show (if (W'.tick n).1 ≠ 0 then _ else _) = _
        rw [if_pos (by rw [he]; exact Nat.succ_ne_zero e)]
      repeat' ((conv => whnf); first | refine RetC.mk ?_ | refine NzC.mk (by decide) ?_ | refine RngC.mk (by omega) (by omega) ?_ | refine IdxC.mk (by omega) (by omega) ?_ | refine brD (fun _ => ?_) (fun _ => ?_) | refine brND (fun _ => ?_) (fun _ => ?_) | refine brN (fun _ => ?_) (fun _ => ?_) | refine brI (fun _ => ?_) (fun _ => ?_))
      rw [hr2]
      exact ⟨by rw [he], X2, hw2.trans hw, hT3⟩
  · obtain rfl : i = k := by omega
    rw [Nat.sub_self] at hr
    repeat' ((conv => whnf); first | refine RetC.mk ?_ | refine NzC.mk (by decide) ?_ | refine RngC.mk (by omega) (by omega) ?_ | refine IdxC.mk (by omega) (by omega) ?_ | refine brD (fun _ => ?_) (fun _ => ?_) | refine brND (fun _ => ?_) (fun _ => ?_) | refine brN (fun _ => ?_) (fun _ => ?_) | refine brI (fun _ => ?_) (fun _ => ?_))
    rw [hr]
    exact ⟨rfl, X', hw, hT⟩
theorem one_lt {v : Int} (h0 : 0 ≤ v) : ∃ j : Nat, j < 16 ∧ v.tmod 16 = j := ⟨(v.tmod 16).toNat, by rw [Int.tmod_eq_emod_of_nonneg h0]; omega, by rw [Int.tmod_eq_emod_of_nonneg h0]; omega⟩
set_option maxHeartbeats 4000000 in
set_option maxRecDepth 10000 in
theorem pone_ok (v : Int) (h0 : 0 ≤ v) (hv : v ≤ 9223372036854775807) (h : Stands E q m w X W) (hm : m + 340 ≤ 40000000) : CallC Tryz.prog 80 #[.pointer (some ⟨X.w, 0, none⟩), .int .i64 v] w (Does E w X W (W.one v)) := by
  have hqF : ∀ b, inF (worldH X W) b → q ≤ b := h.high
  obtain ⟨j, hj, he⟩ := one_lt h0
  have hq0 : 0 ≤ v.tdiv 16 ∧ v.tdiv 16 ≤ v := by
    rw [Int.tdiv_eq_ediv_of_nonneg h0]
    omega
  have hflen := h.ok.fly
  generalize hqq : v.tdiv 16 = k at hq0
  have hk2 : 0 ≤ k.tmod 2 ∧ k.tmod 2 < 2 := by rw [Int.tmod_eq_emod_of_nonneg hq0.1]; omega
  have hkd : 0 ≤ k.tdiv 2 ∧ k.tdiv 2 ≤ k := by
    rw [Int.tdiv_eq_ediv_of_nonneg hq0.1]
    omega
  have hk30 : 0 ≤ (k.tdiv 2).tmod 30 ∧ (k.tdiv 2).tmod 30 < 30 := by rw [Int.tmod_eq_emod_of_nonneg hkd.1]; omega
  refine fn_intro tabOk Tryz.func80 (by kernel_rfl) rfl Tryz.ntmps80 (Nat.le_of_ble_eq_true rfl) ?_
  have hS := h.has.start
  (conv => whnf)
  refine NzC.mk (by decide) ?_
  rw [hqq]
  refine RngC.mk (by omega) (by omega) ?_
  (conv => whnf)
  refine NzC.mk (by decide) ?_
  rw [he]
  have hj2 : j = 0 ∨ j = 1 ∨ j = 2 ∨ j = 3 ∨ j = 4 ∨ j = 5 ∨ j = 6 ∨ j = 7 ∨ j = 8 ∨ j = 9 ∨ j = 10 ∨ j = 11 ∨ j = 12 ∨ j = 13 ∨ j = 14 ∨ j = 15 := by omega
  by_cases hf : W.fly.length = 0
  · by_cases h5 : j < 5
    · have hone : W.one v = (4, W) := by
        unfold WorldS.one
        rw [if_pos ⟨by rw [he]; omega, hf⟩]
      rw [hone]
      have hj5 : j = 0 ∨ j = 1 ∨ j = 2 ∨ j = 3 ∨ j = 4 := by omega
      clear hj2
      rcases hj5 with rfl | rfl | rfl | rfl | rfl
      all_goals
        (conv => whnf)
        refine (wfly_ok h.has).mono ?_
        rintro v w1 ⟨rfl, rfl⟩
        rw [hf]
        repeat' ((conv => whnf); first | refine RetC.mk ?_ | refine NzC.mk (by decide) ?_ | refine RngC.mk (by omega) (by omega) ?_ | refine IdxC.mk (by omega) (by omega) ?_ | refine hS.ldr (h.errs.at_ 4 rfl) (Errs.out h.errs 4 rfl hqF) ?_ | refine brD (fun _ => ?_) (fun _ => ?_) | refine brND (fun _ => ?_) (fun _ => ?_) | refine brN (fun _ => ?_) (fun _ => ?_) | refine brI (fun _ => ?_) (fun _ => ?_))
        exact ⟨rfl, X, rfl, Turns.refl h.has⟩
    · have hj5 : j = 5 ∨ j = 6 ∨ j = 7 ∨ j = 8 ∨ j = 9 ∨ j = 10 ∨ j = 11 ∨ j = 12 ∨ j = 13 ∨ j = 14 ∨ j = 15 := by omega
      clear hj2
      rcases hj5 with rfl | rfl | rfl | rfl | rfl | rfl | rfl | rfl | rfl | rfl | rfl
      · skip
        have hone : W.one v = W.tick (k.tmod 2) := by simp [WorldS.one, he, hqq]
        rw [hone]
        repeat' ((conv => whnf); first | refine RetC.mk ?_ | refine NzC.mk (by decide) ?_ | refine RngC.mk (by omega) (by omega) ?_ | refine IdxC.mk (by omega) (by omega) ?_ | (refine (wtick_ok _ h (by omega)).mono ?_; rintro v1 w1 ⟨rfl, hX⟩) | refine brD (fun _ => ?_) (fun _ => ?_) | refine brND (fun _ => ?_) (fun _ => ?_) | refine brN (fun _ => ?_) (fun _ => ?_) | refine brI (fun _ => ?_) (fun _ => ?_))
        exact ⟨rfl, hX⟩
      · skip
        have hone : W.one v = W.tick (k.tmod 2) := by simp [WorldS.one, he, hqq]
        rw [hone]
        repeat' ((conv => whnf); first | refine RetC.mk ?_ | refine NzC.mk (by decide) ?_ | refine RngC.mk (by omega) (by omega) ?_ | refine IdxC.mk (by omega) (by omega) ?_ | (refine (wtick_ok _ h (by omega)).mono ?_; rintro v1 w1 ⟨rfl, hX⟩) | refine brD (fun _ => ?_) (fun _ => ?_) | refine brND (fun _ => ?_) (fun _ => ?_) | refine brN (fun _ => ?_) (fun _ => ?_) | refine brI (fun _ => ?_) (fun _ => ?_))
        exact ⟨rfl, hX⟩
      · skip
        have hone : W.one v = W.ticks (k.tmod 2) 10 := by simp [WorldS.one, he, hqq]
        rw [hone]
        repeat' ((conv => whnf); first | refine RetC.mk ?_ | refine NzC.mk (by decide) ?_ | refine RngC.mk (by omega) (by omega) ?_ | refine IdxC.mk (by omega) (by omega) ?_ | (refine (pticks_ok _ 10 h (by omega)).mono ?_; rintro v1 w1 ⟨rfl, hX⟩) | refine brD (fun _ => ?_) (fun _ => ?_) | refine brND (fun _ => ?_) (fun _ => ?_) | refine brN (fun _ => ?_) (fun _ => ?_) | refine brI (fun _ => ?_) (fun _ => ?_))
        exact ⟨rfl, hX⟩
      · skip
        have hone : W.one v = ((W.inside (insideOf k)).1, (W.inside (insideOf k)).2.2) := by simp [WorldS.one, he, hqq]
        rw [hone]
        (conv => whnf)
        refine (pinside_ok k hq0.1 (by omega) _).mono ?_
        rintro v1 w1 ⟨rfl, hx⟩
        (conv => whnf)
        refine (winside_ok (insideOf k) (h.no hx) (by omega)).mono ?_
        rintro v1 w2 ⟨rfl, hT⟩
        repeat' ((conv => whnf); first | refine RetC.mk ?_ | refine NzC.mk (by decide) ?_ | refine RngC.mk (by omega) (by omega) ?_ | refine IdxC.mk (by omega) (by omega) ?_ | refine brD (fun _ => ?_) (fun _ => ?_) | refine brND (fun _ => ?_) (fun _ => ?_) | refine brN (fun _ => ?_) (fun _ => ?_) | refine brI (fun _ => ?_) (fun _ => ?_))
        exact ⟨rfl, X, rfl, (Turns.of_no h.has hx).trans hT⟩
      · skip
        have hone : W.one v = ((W.inside (insideOf k)).1, (W.inside (insideOf k)).2.2) := by simp [WorldS.one, he, hqq]
        rw [hone]
        (conv => whnf)
        refine (pinside_ok k hq0.1 (by omega) _).mono ?_
        rintro v1 w1 ⟨rfl, hx⟩
        (conv => whnf)
        refine (winside_ok (insideOf k) (h.no hx) (by omega)).mono ?_
        rintro v1 w2 ⟨rfl, hT⟩
        repeat' ((conv => whnf); first | refine RetC.mk ?_ | refine NzC.mk (by decide) ?_ | refine RngC.mk (by omega) (by omega) ?_ | refine IdxC.mk (by omega) (by omega) ?_ | refine brD (fun _ => ?_) (fun _ => ?_) | refine brND (fun _ => ?_) (fun _ => ?_) | refine brN (fun _ => ?_) (fun _ => ?_) | refine brI (fun _ => ?_) (fun _ => ?_))
        exact ⟨rfl, X, rfl, (Turns.of_no h.has hx).trans hT⟩
      · skip
        have hone : W.one v = ((W.outside (outsideOf k)).1, (W.outside (outsideOf k)).2.2) := by simp [WorldS.one, he, hqq]
        rw [hone]
        (conv => whnf)
        refine (poutside_ok k hq0.1 (by omega) _).mono ?_
        rintro v1 w1 ⟨rfl, hx⟩
        (conv => whnf)
        refine (woutside_ok (outsideOf k) (h.no hx) (by omega)).mono ?_
        rintro v1 w2 ⟨rfl, hT⟩
        repeat' ((conv => whnf); first | refine RetC.mk ?_ | refine NzC.mk (by decide) ?_ | refine RngC.mk (by omega) (by omega) ?_ | refine IdxC.mk (by omega) (by omega) ?_ | refine brD (fun _ => ?_) (fun _ => ?_) | refine brND (fun _ => ?_) (fun _ => ?_) | refine brN (fun _ => ?_) (fun _ => ?_) | refine brI (fun _ => ?_) (fun _ => ?_))
        exact ⟨rfl, X, rfl, (Turns.of_no h.has hx).trans hT⟩
      · skip
        have hone : W.one v = ((W.outside (outsideOf k)).1, (W.outside (outsideOf k)).2.2) := by simp [WorldS.one, he, hqq]
        rw [hone]
        (conv => whnf)
        refine (poutside_ok k hq0.1 (by omega) _).mono ?_
        rintro v1 w1 ⟨rfl, hx⟩
        (conv => whnf)
        refine (woutside_ok (outsideOf k) (h.no hx) (by omega)).mono ?_
        rintro v1 w2 ⟨rfl, hT⟩
        repeat' ((conv => whnf); first | refine RetC.mk ?_ | refine NzC.mk (by decide) ?_ | refine RngC.mk (by omega) (by omega) ?_ | refine IdxC.mk (by omega) (by omega) ?_ | refine brD (fun _ => ?_) (fun _ => ?_) | refine brND (fun _ => ?_) (fun _ => ?_) | refine brN (fun _ => ?_) (fun _ => ?_) | refine brI (fun _ => ?_) (fun _ => ?_))
        exact ⟨rfl, X, rfl, (Turns.of_no h.has hx).trans hT⟩
      · skip
        have hone : W.one v = W.down (k.tmod 2) := by simp [WorldS.one, he, hqq]
        rw [hone]
        repeat' ((conv => whnf); first | refine RetC.mk ?_ | refine NzC.mk (by decide) ?_ | refine RngC.mk (by omega) (by omega) ?_ | refine IdxC.mk (by omega) (by omega) ?_ | (refine (wdown_ok _ h).mono ?_; rintro v1 w1 ⟨rfl, hX⟩) | refine brD (fun _ => ?_) (fun _ => ?_) | refine brND (fun _ => ?_) (fun _ => ?_) | refine brN (fun _ => ?_) (fun _ => ?_) | refine brI (fun _ => ?_) (fun _ => ?_))
        exact ⟨rfl, X, rfl, hX⟩
      · skip
        have hone : W.one v = W.up (k.tmod 2) := by simp [WorldS.one, he, hqq]
        rw [hone]
        repeat' ((conv => whnf); first | refine RetC.mk ?_ | refine NzC.mk (by decide) ?_ | refine RngC.mk (by omega) (by omega) ?_ | refine IdxC.mk (by omega) (by omega) ?_ | (refine (wcome_ok _ h).mono ?_; rintro v1 w1 ⟨rfl, hX⟩) | refine brD (fun _ => ?_) (fun _ => ?_) | refine brND (fun _ => ?_) (fun _ => ?_) | refine brN (fun _ => ?_) (fun _ => ?_) | refine brI (fun _ => ?_) (fun _ => ?_))
        exact ⟨rfl, hX⟩
      · skip
        have hone : W.one v = W.cut (k.tmod 2) ((k.tdiv 2).tmod 30) := by simp [WorldS.one, he, hqq]
        rw [hone]
        repeat' ((conv => whnf); first | refine RetC.mk ?_ | refine NzC.mk (by decide) ?_ | refine RngC.mk (by omega) (by omega) ?_ | refine IdxC.mk (by omega) (by omega) ?_ | (refine (wcut_ok _ _ h).mono ?_; rintro v1 w1 ⟨rfl, hX⟩) | refine brD (fun _ => ?_) (fun _ => ?_) | refine brND (fun _ => ?_) (fun _ => ?_) | refine brN (fun _ => ?_) (fun _ => ?_) | refine brI (fun _ => ?_) (fun _ => ?_))
        exact ⟨rfl, X, rfl, hX⟩
      · have hone : W.one v = (0, W) := by simp [WorldS.one, he]
        rw [hone]
        repeat' ((conv => whnf); first | refine RetC.mk ?_ | refine NzC.mk (by decide) ?_ | refine RngC.mk (by omega) (by omega) ?_ | refine IdxC.mk (by omega) (by omega) ?_ | refine brD (fun _ => ?_) (fun _ => ?_) | refine brND (fun _ => ?_) (fun _ => ?_) | refine brN (fun _ => ?_) (fun _ => ?_) | refine brI (fun _ => ?_) (fun _ => ?_))
        exact ⟨rfl, X, rfl, Turns.refl h.has⟩
  · have hj5 : j = 0 ∨ j = 1 ∨ j = 2 ∨ j = 3 ∨ j = 4 ∨ (j = 5 ∨ j = 6 ∨ j = 7 ∨ j = 8 ∨ j = 9 ∨ j = 10 ∨ j = 11 ∨ j = 12 ∨ j = 13 ∨ j = 14 ∨ j = 15) := by omega
    clear hj2
    rcases hj5 with rfl | rfl | rfl | rfl | rfl | hj5
    · skip
      have hone : W.one v = W.deliver (k.tmod W.fly.length) := by simp [WorldS.one, he, hqq, hf]
      rw [hone]
      (conv => whnf)
      refine (wfly_ok h.has).mono ?_
      rintro v1 w1 ⟨rfl, rfl⟩
      (conv => whnf)
      refine brD (fun h5 => absurd (show W.fly.length = 0 by omega) hf) (fun _ => ?_)
      (conv => whnf)
      refine (wfly_ok h.has).mono ?_
      rintro v1 w1 ⟨rfl, rfl⟩
      (conv => whnf)
      refine NzC.mk (by omega) ?_
      (conv => whnf)
      refine (wdeliver_ok _ h).mono ?_
      rintro v1 w1 ⟨rfl, hX⟩
      repeat' ((conv => whnf); first | refine RetC.mk ?_ | refine NzC.mk (by decide) ?_ | refine RngC.mk (by omega) (by omega) ?_ | refine IdxC.mk (by omega) (by omega) ?_ | refine brD (fun _ => ?_) (fun _ => ?_) | refine brND (fun _ => ?_) (fun _ => ?_) | refine brN (fun _ => ?_) (fun _ => ?_) | refine brI (fun _ => ?_) (fun _ => ?_))
      exact ⟨rfl, hX⟩
    · skip
      have hone : W.one v = W.deliver (k.tmod W.fly.length) := by simp [WorldS.one, he, hqq, hf]
      rw [hone]
      (conv => whnf)
      refine (wfly_ok h.has).mono ?_
      rintro v1 w1 ⟨rfl, rfl⟩
      (conv => whnf)
      refine brD (fun h5 => absurd (show W.fly.length = 0 by omega) hf) (fun _ => ?_)
      (conv => whnf)
      refine (wfly_ok h.has).mono ?_
      rintro v1 w1 ⟨rfl, rfl⟩
      (conv => whnf)
      refine NzC.mk (by omega) ?_
      (conv => whnf)
      refine (wdeliver_ok _ h).mono ?_
      rintro v1 w1 ⟨rfl, hX⟩
      repeat' ((conv => whnf); first | refine RetC.mk ?_ | refine NzC.mk (by decide) ?_ | refine RngC.mk (by omega) (by omega) ?_ | refine IdxC.mk (by omega) (by omega) ?_ | refine brD (fun _ => ?_) (fun _ => ?_) | refine brND (fun _ => ?_) (fun _ => ?_) | refine brN (fun _ => ?_) (fun _ => ?_) | refine brI (fun _ => ?_) (fun _ => ?_))
      exact ⟨rfl, hX⟩
    · skip
      have hone : W.one v = W.deliver (k.tmod W.fly.length) := by simp [WorldS.one, he, hqq, hf]
      rw [hone]
      (conv => whnf)
      refine (wfly_ok h.has).mono ?_
      rintro v1 w1 ⟨rfl, rfl⟩
      (conv => whnf)
      refine brD (fun h5 => absurd (show W.fly.length = 0 by omega) hf) (fun _ => ?_)
      (conv => whnf)
      refine (wfly_ok h.has).mono ?_
      rintro v1 w1 ⟨rfl, rfl⟩
      (conv => whnf)
      refine NzC.mk (by omega) ?_
      (conv => whnf)
      refine (wdeliver_ok _ h).mono ?_
      rintro v1 w1 ⟨rfl, hX⟩
      repeat' ((conv => whnf); first | refine RetC.mk ?_ | refine NzC.mk (by decide) ?_ | refine RngC.mk (by omega) (by omega) ?_ | refine IdxC.mk (by omega) (by omega) ?_ | refine brD (fun _ => ?_) (fun _ => ?_) | refine brND (fun _ => ?_) (fun _ => ?_) | refine brN (fun _ => ?_) (fun _ => ?_) | refine brI (fun _ => ?_) (fun _ => ?_))
      exact ⟨rfl, hX⟩
    · skip
      have hone : W.one v = W.drop (k.tmod W.fly.length) := by simp [WorldS.one, he, hqq, hf]
      rw [hone]
      (conv => whnf)
      refine (wfly_ok h.has).mono ?_
      rintro v1 w1 ⟨rfl, rfl⟩
      (conv => whnf)
      refine brD (fun h5 => absurd (show W.fly.length = 0 by omega) hf) (fun _ => ?_)
      (conv => whnf)
      refine (wfly_ok h.has).mono ?_
      rintro v1 w1 ⟨rfl, rfl⟩
      (conv => whnf)
      refine NzC.mk (by omega) ?_
      (conv => whnf)
      refine (wdrop_ok _ h).mono ?_
      rintro v1 w1 ⟨rfl, hX⟩
      repeat' ((conv => whnf); first | refine RetC.mk ?_ | refine NzC.mk (by decide) ?_ | refine RngC.mk (by omega) (by omega) ?_ | refine IdxC.mk (by omega) (by omega) ?_ | refine brD (fun _ => ?_) (fun _ => ?_) | refine brND (fun _ => ?_) (fun _ => ?_) | refine brN (fun _ => ?_) (fun _ => ?_) | refine brI (fun _ => ?_) (fun _ => ?_))
      exact ⟨rfl, hX⟩
    · skip
      have hone : W.one v = W.twice (k.tmod W.fly.length) := by simp [WorldS.one, he, hqq, hf]
      rw [hone]
      (conv => whnf)
      refine (wfly_ok h.has).mono ?_
      rintro v1 w1 ⟨rfl, rfl⟩
      (conv => whnf)
      refine brD (fun h5 => absurd (show W.fly.length = 0 by omega) hf) (fun _ => ?_)
      (conv => whnf)
      refine (wfly_ok h.has).mono ?_
      rintro v1 w1 ⟨rfl, rfl⟩
      (conv => whnf)
      refine NzC.mk (by omega) ?_
      (conv => whnf)
      refine (wtwice_ok _ h).mono ?_
      rintro v1 w1 ⟨rfl, hX⟩
      repeat' ((conv => whnf); first | refine RetC.mk ?_ | refine NzC.mk (by decide) ?_ | refine RngC.mk (by omega) (by omega) ?_ | refine IdxC.mk (by omega) (by omega) ?_ | refine brD (fun _ => ?_) (fun _ => ?_) | refine brND (fun _ => ?_) (fun _ => ?_) | refine brN (fun _ => ?_) (fun _ => ?_) | refine brI (fun _ => ?_) (fun _ => ?_))
      exact ⟨rfl, hX⟩
    · skip
      rcases hj5 with rfl | rfl | rfl | rfl | rfl | rfl | rfl | rfl | rfl | rfl | rfl
      · skip
        have hone : W.one v = W.tick (k.tmod 2) := by simp [WorldS.one, he, hqq]
        rw [hone]
        repeat' ((conv => whnf); first | refine RetC.mk ?_ | refine NzC.mk (by decide) ?_ | refine RngC.mk (by omega) (by omega) ?_ | refine IdxC.mk (by omega) (by omega) ?_ | (refine (wtick_ok _ h (by omega)).mono ?_; rintro v1 w1 ⟨rfl, hX⟩) | refine brD (fun _ => ?_) (fun _ => ?_) | refine brND (fun _ => ?_) (fun _ => ?_) | refine brN (fun _ => ?_) (fun _ => ?_) | refine brI (fun _ => ?_) (fun _ => ?_))
        exact ⟨rfl, hX⟩
      · skip
        have hone : W.one v = W.tick (k.tmod 2) := by simp [WorldS.one, he, hqq]
        rw [hone]
        repeat' ((conv => whnf); first | refine RetC.mk ?_ | refine NzC.mk (by decide) ?_ | refine RngC.mk (by omega) (by omega) ?_ | refine IdxC.mk (by omega) (by omega) ?_ | (refine (wtick_ok _ h (by omega)).mono ?_; rintro v1 w1 ⟨rfl, hX⟩) | refine brD (fun _ => ?_) (fun _ => ?_) | refine brND (fun _ => ?_) (fun _ => ?_) | refine brN (fun _ => ?_) (fun _ => ?_) | refine brI (fun _ => ?_) (fun _ => ?_))
        exact ⟨rfl, hX⟩
      · skip
        have hone : W.one v = W.ticks (k.tmod 2) 10 := by simp [WorldS.one, he, hqq]
        rw [hone]
        repeat' ((conv => whnf); first | refine RetC.mk ?_ | refine NzC.mk (by decide) ?_ | refine RngC.mk (by omega) (by omega) ?_ | refine IdxC.mk (by omega) (by omega) ?_ | (refine (pticks_ok _ 10 h (by omega)).mono ?_; rintro v1 w1 ⟨rfl, hX⟩) | refine brD (fun _ => ?_) (fun _ => ?_) | refine brND (fun _ => ?_) (fun _ => ?_) | refine brN (fun _ => ?_) (fun _ => ?_) | refine brI (fun _ => ?_) (fun _ => ?_))
        exact ⟨rfl, hX⟩
      · skip
        have hone : W.one v = ((W.inside (insideOf k)).1, (W.inside (insideOf k)).2.2) := by simp [WorldS.one, he, hqq]
        rw [hone]
        (conv => whnf)
        refine (pinside_ok k hq0.1 (by omega) _).mono ?_
        rintro v1 w1 ⟨rfl, hx⟩
        (conv => whnf)
        refine (winside_ok (insideOf k) (h.no hx) (by omega)).mono ?_
        rintro v1 w2 ⟨rfl, hT⟩
        repeat' ((conv => whnf); first | refine RetC.mk ?_ | refine NzC.mk (by decide) ?_ | refine RngC.mk (by omega) (by omega) ?_ | refine IdxC.mk (by omega) (by omega) ?_ | refine brD (fun _ => ?_) (fun _ => ?_) | refine brND (fun _ => ?_) (fun _ => ?_) | refine brN (fun _ => ?_) (fun _ => ?_) | refine brI (fun _ => ?_) (fun _ => ?_))
        exact ⟨rfl, X, rfl, (Turns.of_no h.has hx).trans hT⟩
      · skip
        have hone : W.one v = ((W.inside (insideOf k)).1, (W.inside (insideOf k)).2.2) := by simp [WorldS.one, he, hqq]
        rw [hone]
        (conv => whnf)
        refine (pinside_ok k hq0.1 (by omega) _).mono ?_
        rintro v1 w1 ⟨rfl, hx⟩
        (conv => whnf)
        refine (winside_ok (insideOf k) (h.no hx) (by omega)).mono ?_
        rintro v1 w2 ⟨rfl, hT⟩
        repeat' ((conv => whnf); first | refine RetC.mk ?_ | refine NzC.mk (by decide) ?_ | refine RngC.mk (by omega) (by omega) ?_ | refine IdxC.mk (by omega) (by omega) ?_ | refine brD (fun _ => ?_) (fun _ => ?_) | refine brND (fun _ => ?_) (fun _ => ?_) | refine brN (fun _ => ?_) (fun _ => ?_) | refine brI (fun _ => ?_) (fun _ => ?_))
        exact ⟨rfl, X, rfl, (Turns.of_no h.has hx).trans hT⟩
      · skip
        have hone : W.one v = ((W.outside (outsideOf k)).1, (W.outside (outsideOf k)).2.2) := by simp [WorldS.one, he, hqq]
        rw [hone]
        (conv => whnf)
        refine (poutside_ok k hq0.1 (by omega) _).mono ?_
        rintro v1 w1 ⟨rfl, hx⟩
        (conv => whnf)
        refine (woutside_ok (outsideOf k) (h.no hx) (by omega)).mono ?_
        rintro v1 w2 ⟨rfl, hT⟩
        repeat' ((conv => whnf); first | refine RetC.mk ?_ | refine NzC.mk (by decide) ?_ | refine RngC.mk (by omega) (by omega) ?_ | refine IdxC.mk (by omega) (by omega) ?_ | refine brD (fun _ => ?_) (fun _ => ?_) | refine brND (fun _ => ?_) (fun _ => ?_) | refine brN (fun _ => ?_) (fun _ => ?_) | refine brI (fun _ => ?_) (fun _ => ?_))
        exact ⟨rfl, X, rfl, (Turns.of_no h.has hx).trans hT⟩
      · skip
        have hone : W.one v = ((W.outside (outsideOf k)).1, (W.outside (outsideOf k)).2.2) := by simp [WorldS.one, he, hqq]
        rw [hone]
        (conv => whnf)
        refine (poutside_ok k hq0.1 (by omega) _).mono ?_
        rintro v1 w1 ⟨rfl, hx⟩
        (conv => whnf)
        refine (woutside_ok (outsideOf k) (h.no hx) (by omega)).mono ?_
        rintro v1 w2 ⟨rfl, hT⟩
        repeat' ((conv => whnf); first | refine RetC.mk ?_ | refine NzC.mk (by decide) ?_ | refine RngC.mk (by omega) (by omega) ?_ | refine IdxC.mk (by omega) (by omega) ?_ | refine brD (fun _ => ?_) (fun _ => ?_) | refine brND (fun _ => ?_) (fun _ => ?_) | refine brN (fun _ => ?_) (fun _ => ?_) | refine brI (fun _ => ?_) (fun _ => ?_))
        exact ⟨rfl, X, rfl, (Turns.of_no h.has hx).trans hT⟩
      · skip
        have hone : W.one v = W.down (k.tmod 2) := by simp [WorldS.one, he, hqq]
        rw [hone]
        repeat' ((conv => whnf); first | refine RetC.mk ?_ | refine NzC.mk (by decide) ?_ | refine RngC.mk (by omega) (by omega) ?_ | refine IdxC.mk (by omega) (by omega) ?_ | (refine (wdown_ok _ h).mono ?_; rintro v1 w1 ⟨rfl, hX⟩) | refine brD (fun _ => ?_) (fun _ => ?_) | refine brND (fun _ => ?_) (fun _ => ?_) | refine brN (fun _ => ?_) (fun _ => ?_) | refine brI (fun _ => ?_) (fun _ => ?_))
        exact ⟨rfl, X, rfl, hX⟩
      · skip
        have hone : W.one v = W.up (k.tmod 2) := by simp [WorldS.one, he, hqq]
        rw [hone]
        repeat' ((conv => whnf); first | refine RetC.mk ?_ | refine NzC.mk (by decide) ?_ | refine RngC.mk (by omega) (by omega) ?_ | refine IdxC.mk (by omega) (by omega) ?_ | (refine (wcome_ok _ h).mono ?_; rintro v1 w1 ⟨rfl, hX⟩) | refine brD (fun _ => ?_) (fun _ => ?_) | refine brND (fun _ => ?_) (fun _ => ?_) | refine brN (fun _ => ?_) (fun _ => ?_) | refine brI (fun _ => ?_) (fun _ => ?_))
        exact ⟨rfl, hX⟩
      · skip
        have hone : W.one v = W.cut (k.tmod 2) ((k.tdiv 2).tmod 30) := by simp [WorldS.one, he, hqq]
        rw [hone]
        repeat' ((conv => whnf); first | refine RetC.mk ?_ | refine NzC.mk (by decide) ?_ | refine RngC.mk (by omega) (by omega) ?_ | refine IdxC.mk (by omega) (by omega) ?_ | (refine (wcut_ok _ _ h).mono ?_; rintro v1 w1 ⟨rfl, hX⟩) | refine brD (fun _ => ?_) (fun _ => ?_) | refine brND (fun _ => ?_) (fun _ => ?_) | refine brN (fun _ => ?_) (fun _ => ?_) | refine brI (fun _ => ?_) (fun _ => ?_))
        exact ⟨rfl, X, rfl, hX⟩
      · have hone : W.one v = (0, W) := by simp [WorldS.one, he]
        rw [hone]
        repeat' ((conv => whnf); first | refine RetC.mk ?_ | refine NzC.mk (by decide) ?_ | refine RngC.mk (by omega) (by omega) ?_ | refine IdxC.mk (by omega) (by omega) ?_ | refine brD (fun _ => ?_) (fun _ => ?_) | refine brND (fun _ => ?_) (fun _ => ?_) | refine brN (fun _ => ?_) (fun _ => ?_) | refine brI (fun _ => ?_) (fun _ => ?_))
        exact ⟨rfl, X, rfl, Turns.refl h.has⟩
end
end Go.Proofs.YtoaghhcjlfiflaaGreatDoor

/-
  Package play, walked: a play of numbers; settling.
-/
namespace Go.Proofs.YtoaghhcjlfiflaaGreatDoor
open Go Ev
/-- A number's answer, and what is made of the world. -/
def WorldS.say (W : WorldS) (v : Int) : Int × WorldS := if v < 0 then (-1, W) else (((W.one v).1 : Nat), (W.one v).2)
theorem run_cons (W : WorldS) (v : Int) (l : List Int) : W.run (v :: l) = ((W.say v).1 :: ((W.say v).2.run l).1, ((W.say v).2.run l).2) := by
  unfold WorldS.say
  show (if v < 0 then _ else _) = _
  split <;> rfl
theorem run_app : ∀ (a b : List Int) (W : WorldS), W.run (a ++ b) = ((W.run a).1 ++ ((W.run a).2.run b).1, ((W.run a).2.run b).2)
  | [], b, W => rfl
  | v :: a, b, W => by
    rw [List.cons_append, run_cons, run_cons, run_app a b]
    rfl
theorem run_len : ∀ (a : List Int) (W : WorldS), (W.run a).1.length = a.length
  | [], _ => rfl
  | v :: a, W => by
    rw [run_cons]
    show ((W.say v).2.run a).1.length + 1 = _
    rw [run_len a]
    rfl
theorem say_ok {m : Nat} {W : WorldS} (h : WOk m W) (hm : m + 340 ≤ 40000000) (v : Int) : WOk (m + 340) (W.say v).2 := by
  unfold WorldS.say
  split
  · exact h.mono (by omega)
  · exact one_ok h hm v
theorem run_take {W : WorldS} {l : List Int} {k : Nat} {v : Int} (h : l[k]? = some v) : W.run (l.take (k + 1)) = ((W.run (l.take k)).1 ++ [((W.run (l.take k)).2.say v).1], ((W.run (l.take k)).2.say v).2) := by
  rw [List.take_add_one, h]
  show W.run (l.take k ++ [v]) = _
  rw [run_app, run_cons]
  rfl
theorem runs_ok : ∀ (l : List Int) {m : Nat} {W : WorldS}, WOk m W → m + l.length * 340 ≤ 40000000 → WOk (m + l.length * 340) (W.run l).2
  | [], _, _, h, _ => h.mono (Nat.le_add_right _ _)
  | v :: l, m, W, h, hm => by
    have e : (v :: l).length = l.length + 1 := rfl
    generalize (v :: l).length = z at e hm ⊢
    subst e
    rw [run_cons]
    exact (runs_ok l (say_ok h (by omega) v) (by omega)).mono (by omega)
section
variable {w w' : World} {X : WorldA} {W : WorldS} {E : Nat → Addr} {q m : Nat}
/-- 's[:n]' of all of s. -/
theorem slcHeadE {P : Program} {α : Type} {sz : Nat} {enc : α → List Value} {G : α → Prop} {a : Option Addr} {n c : Nat} {xs : List α} {t e : TypeId} {q : IntKind} {i : Int} {k : Value → Prop} (hx : Slc w sz enc G a n xs) (hnc : n ≤ c) (hu : P.underlying t = some (.slice e)) (he : (P.info? e).isSome = true) (hi : i = (n : Int))
    (hk : ∀ a' c', (0 < n → a' = a) → Slc w sz enc G a' n xs → k (.slice a' n c')) : PureC P (Instr.sliceAt t (.slice a n c) none (some (.int q i)) none) k := by
  subst hi
  have ht : P.underlying t = some (.slice (P.elem t)) := by rw [elem_of hu]; exact hu
  have hsame : 0 < n → (if c = 0 then a else a.map (·.add 0)) = a := fun h0 => by
    obtain ⟨x, hx0⟩ : ∃ x, xs[0]? = some x := ⟨_, List.getElem?_eq_getElem (by rw [hx.len]; exact h0)⟩
    obtain ⟨b, o, rfl, _⟩ := hx.cells 0 x hx0
    split <;> rfl
  refine ⟨.slice (if c = 0 then a else a.map (·.add 0)) n c, fun w => ?_, hk _ _ hsame ?_⟩
  · rw [run_sliceAt_slice w t _ _ _ _ ht, run_slice_h w t a n c ht q _ (by omega) (by omega), elem_of hu, cellsOf_run he]
    simp [sliced]
  · have := hx.take n (Nat.le_refl _) _ hsame
    rwa [List.take_of_length_le (by rw [hx.len]; exact Nat.le_refl _)] at this
/-- What the telling of errors by numbers leans on. -/
structure Codes (E : Nat → Addr) (q : Nat) (w : World) : Prop where
  errs : Errs w E q allErrs
  handle : Handle w
  lt : 11 < q
theorem Codes.turns {H H' : List Ent} (h : Codes E q w) (hH : High H q) (k : Turns w w' H H') : Codes E q w' :=
  ⟨h.errs.turns hH k, k.ext.cell h.handle (fun hb => by have := hH _ hb; have := h.lt; omega), h.lt⟩
theorem Codes.no (h : Codes E q w) (hx : Ext No w w') : Codes E q w' := ⟨h.errs.ext hx fun _ h => h.elim, h.handle.ext hx, h.lt⟩
theorem prun_ok {a : Option Addr} {n c : Nat} {xs : List Int} (hx : Slc w 1 encI (fun v => v ≤ 9223372036854775807) a n xs) (hn : n ≤ 300) (hnc : n ≤ c) (hsrc : 0 < n → ∀ b0 o0, a = some ⟨b0, o0, none⟩ → ¬ inF (worldH X W) b0) (h : Stands E q m w X W) (hC : Codes E q w) (hm : m + 340 * n ≤ 40000000) :
    CallC Tryz.prog 33 #[.pointer (some ⟨X.w, 0, none⟩), .slice a n c] w fun v w' => ∃ a' c' X', v = .slice a' n c' ∧ X'.w = X.w ∧ Turns w w' (worldH X W) (ownL 3 1 encI v (W.run xs).1 :: worldH X' (W.run xs).2) := by
  have hl := hx.len
  refine fn_intro tabOk Tryz.func33 (by kernel_rfl) rfl Tryz.ntmps33 (Nat.le_of_ble_eq_true rfl) ?_
  (conv => whnf)
  rw [if_neg (by omega)]
  refine slcHeadE hx hnc Tryz.underlying62 (by kernel_rfl) rfl (fun a1 c1 h1 hx1 => ?_)
  have hsrc1 : 0 < n → ∀ b0 o0, a1 = some ⟨b0, o0, none⟩ → ¬ inF (worldH X W) b0 := fun h0 b0 o0 h2 => hsrc h0 b0 o0 ((h1 h0) ▸ h2)
  clear hsrc hx h1 hnc
  have hS : St w (inF (worldH X W)) w ([ownL 3 1 encI (.slice none 0 0) []] ++ worldH X W) := (h.has.start.addNil 3 1 encI).perm (List.perm_append_comm)
  (conv => whnf)
  refine loopR tabOk (fun σ w' r => ∃ (k : Nat) (a' : Option Addr) (c' : Nat) (X' : WorldA), σ = [(15, .int .i64 k), (14, .int .i64 (n : Nat)), (13, .slice a1 n c1), (5, .slice a' k c'), (0, .pointer (some ⟨X.w, 0, none⟩))] ∧ r = n - k ∧ k ≤ n ∧ X'.w = X.w ∧ St w (inF (worldH X W)) w' ([ownL 3 1 encI (.slice a' k c') (W.run (xs.take k)).1] ++ worldH X' (W.run (xs.take k)).2))
    (σ' := [(15, .int .i64 ((0 : Nat) : Int)), (14, .int .i64 (n : Nat)), (13, .slice a1 n c1), (5, .slice none 0 0), (0, .pointer (some ⟨X.w, 0, none⟩))]) (n := n) ⟨rfl, rfl, rfl, rfl, rfl, trivial⟩ ⟨0, none, 0, X, rfl, rfl, Nat.zero_le _, rfl, hS⟩ ?_
  clear hS
  rintro _ w1 r ⟨k, a', c', X', rfl, rfl, hk, hw, hS⟩
  (conv => whnf)
  refine brD (fun h3 => ?_) (fun h3 => ?_)
  · have hx2 := hx1.extN hS.ext hsrc1
    obtain ⟨b0, o0, v, hv, hvb, rfl, hb0, hcv⟩ := hx2.at (k := k) (by omega)
    have hst := run_take (W := W) hv
    have hok := runs_ok (xs.take k) h.ok (by rw [List.length_take]; omega)
    have hrl : (W.run (xs.take k)).1.length = k := by rw [run_len, List.length_take]; omega
    have hTH : Turns w w1 (worldH X W) (worldH X' (W.run (xs.take k)).2) := ⟨hS.ext, hS.has.right, fun e he b hb => (hS.may e (List.mem_append_right _ he) b hb).1⟩
    have hsd : Stands E q (m + (xs.take k).length * 340) w1 X' (W.run (xs.take k)).2 := h.turns hTH hok
    have hCd := hC.turns h.high hTH
    have hlt : m + (xs.take k).length * 340 + 340 ≤ 40000000 := by rw [List.length_take]; omega
    generalize W.run (xs.take k) = R at *
    (conv => whnf)
    refine IdxC.mk (by omega) (by omega) ?_
    (conv => whnf)
    refine ldc (hcv.one 0 rfl) ?_
    (conv => whnf)
    refine brD (fun h4 => ?_) (fun h4 => ?_)
    · have hsay : R.2.say v = ((((R.2.one v).1 : Nat) : Int), (R.2.one v).2) := if_neg (by omega)
      rw [hsay] at hst
      (conv => whnf)
      rw [← hw]
      refine (pone_ok v (by omega) hvb hsd hlt).mono ?_
      rintro v1 w2 ⟨rfl, X2, hw2, hT2⟩
      replace hS := St.callAt (A := [_]) (B := []) (H := worldH X' R.2) (by simpa using hS) hT2
      rw [List.append_nil] at hS
      (conv => whnf)
      refine (code_ok (R.2.one v).1 (one_code _ _) _ (hCd.turns hsd.high hT2).errs (hCd.turns hsd.high hT2).handle).mono ?_
      rintro v1 w3 ⟨rfl, hx3⟩
      replace hS := hS.no hx3
      (conv => whnf)
      refine hS.lit Tryz.underlying62 (sz := 1) (by kernel_rfl) (z := .int .i64 0) (by kernel_rfl) rfl rfl (cs := encI (((R.2.one v).1 : Nat) : Int)) (by rfl) (fun b9 w4 hb9 hS => ?_)
      replace hS := hS.perm List.perm_append_comm
      (conv => whnf)
      refine hS.appS codInt 1 (ys := [(((R.2.one v).1 : Nat) : Int)]) (G := fun _ => True) Tryz.underlying62 (bytes := 8) (by kernel_rfl) (z := .int .i64 0) (by kernel_rfl) rfl rfl (Slc.of_blk codInt (hS.blk 0 rfl) rfl (by simp) (fun _ _ => trivial) rfl) (by rw [hrl]; unfold maxLen; omega) (by rw [hrl]; omega) (fun a2 c2 w5 hS => ?_)
      rw [hrl] at hS ⊢
      replace hS := (hS.as (H' := [_] ++ ([ownL 3 1 encI (.slice a2 (k + 1) c2) (R.1 ++ [(((R.2.one v).1 : Nat) : Int)])] ++ worldH X2 (R.2.one v).2)) rfl).weaken (List.sublist_append_right _ _)
      (conv => whnf)
      refine RngC.mk (by omega) (by omega) ?_
      (conv => whnf)
      refine LoopE.mk ⟨_, [(15, .int .i64 ((k + 1 : Nat) : Int)), (14, _), (13, _), (5, .slice a2 (k + 1) c2), (0, _)], ?_, ⟨rfl, rfl, rfl, rfl, rfl, trivial⟩, ⟨k + 1, a2, c2, X2, rfl, rfl, by omega, hw2, by rw [hst]; exact hS⟩⟩
      omega
    · have hsay : R.2.say v = (-1, R.2) := if_pos (by omega)
      rw [hsay] at hst
      rw [← hw]
      (conv => whnf)
      refine hS.lit Tryz.underlying62 (sz := 1) (by kernel_rfl) (z := .int .i64 0) (by kernel_rfl) rfl rfl (cs := encI (-1 : Int)) (by rfl) (fun b9 w4 hb9 hS => ?_)
      replace hS := hS.perm List.perm_append_comm
      (conv => whnf)
      refine hS.appS codInt 1 (ys := [(-1 : Int)]) (G := fun _ => True) Tryz.underlying62 (bytes := 8) (by kernel_rfl) (z := .int .i64 0) (by kernel_rfl) rfl rfl (Slc.of_blk codInt (hS.blk 0 rfl) rfl (by simp) (fun _ _ => trivial) rfl) (by rw [hrl]; unfold maxLen; omega) (by rw [hrl]; omega) (fun a2 c2 w5 hS => ?_)
      rw [hrl] at hS ⊢
      replace hS := (hS.as (H' := [_] ++ ([ownL 3 1 encI (.slice a2 (k + 1) c2) (R.1 ++ [(-1 : Int)])] ++ worldH X' R.2)) rfl).weaken (List.sublist_append_right _ _)
      (conv => whnf)
      refine RngC.mk (by omega) (by omega) ?_
      (conv => whnf)
      refine LoopE.mk ⟨_, [(15, .int .i64 ((k + 1 : Nat) : Int)), (14, _), (13, _), (5, .slice a2 (k + 1) c2), (0, _)], ?_, ⟨rfl, rfl, rfl, rfl, rfl, trivial⟩, ⟨k + 1, a2, c2, X', rfl, rfl, by omega, rfl, by rw [hst]; exact hS⟩⟩
      omega
  · obtain rfl : k = n := by omega
    rw [List.take_of_length_le (by omega)] at hS
    repeat' ((conv => whnf); first | refine RetC.mk ?_ | refine NzC.mk (by decide) ?_ | refine RngC.mk (by omega) (by omega) ?_ | refine IdxC.mk (by omega) (by omega) ?_ | refine brD (fun _ => ?_) (fun _ => ?_) | refine brND (fun _ => ?_) (fun _ => ?_) | refine brN (fun _ => ?_) (fun _ => ?_) | refine brI (fun _ => ?_) (fun _ => ?_))
    exact ⟨a', c', X', rfl, hw, St.turns hS⟩
theorem pland_step (h : Stands E q m w X W) (k : Nat) : W.land (k + 1) = if W.fly.length = 0 then W else (W.deliver 0).2.land k := rfl
end
end Go.Proofs.YtoaghhcjlfiflaaGreatDoor

/-
  Package play, walked: settling.
-/
namespace Go.Proofs.YtoaghhcjlfiflaaGreatDoor
open Go Ev
theorem setSide_fly (W : WorldS) (n : Int) (s : SideS) : (W.setSide n s).fly = W.fly := by
  unfold WorldS.setSide
  split <;> rfl
theorem got_fly (W : WorldS) (x : NoteS) : (W.got x).fly = W.fly := by
  unfold WorldS.got
  repeat' split
  all_goals first | rfl | exact setSide_fly _ _ _
theorem deliver0 {W : WorldS} {j : Nat} (h : W.fly.length = j + 1) : (W.deliver 0).1 = 0 ∧ (W.deliver 0).2.fly.length = j := by
  unfold WorldS.deliver
  have ha : W.at_ 0 = 0 := by unfold WorldS.at_; rw [if_neg (by omega)]
  rw [if_neg (fun h => h ha)]
  obtain ⟨x, hx⟩ : ∃ x, W.fly[(0 : Int).toNat]? = some x := ⟨_, List.getElem?_eq_getElem (show 0 < W.fly.length by omega)⟩
  rw [hx]
  refine ⟨rfl, ?_⟩
  show ((W.off 0).got x).fly.length = j
  rw [got_fly]
  show (W.fly.eraseIdx 0).length = j
  rw [List.length_eraseIdx, if_pos (by omega)]
  omega
theorem deliver_none {W : WorldS} (h : W.fly.length = 0) : W.deliver 0 = (4, W) := by
  have ha : W.at_ 0 = 4 := by unfold WorldS.at_; rw [if_pos (by omega)]
  unfold WorldS.deliver
  rw [if_pos (by rw [ha]; decide), ha]
section
variable {w w' : World} {X : WorldA} {W : WorldS} {E : Nat → Addr} {q m : Nat}
theorem psettle_ok (n : Int) (h : Stands E q m w X W) (hm : m + 34 * 24 ≤ 40000000) : CallC Tryz.prog 25 #[.pointer (some ⟨X.w, 0, none⟩), .int .i64 n] w (Does E w X W (W.settle n 24)) := by
  refine fn_intro tabOk Tryz.func25 (by kernel_rfl) rfl Tryz.ntmps25 (Nat.le_of_ble_eq_true rfl) ?_
  (conv => whnf)
  refine loopR tabOk (fun σ w' r => ∃ (i : Nat) (X' : WorldA) (W' : WorldS), σ = [(6, .int .i64 i), (1, .int .i64 n), (0, .pointer (some ⟨X.w, 0, none⟩))] ∧ r = 24 - i ∧ i ≤ 24 ∧ X'.w = X.w ∧ Stands E q (m + 34 * i) w' X' W' ∧ Turns w w' (worldH X W) (worldH X' W') ∧ W.settle n 24 = W'.settle n (24 - i))
    (σ' := [(6, .int .i64 ((0 : Nat) : Int)), (1, .int .i64 n), (0, .pointer (some ⟨X.w, 0, none⟩))]) (n := 24) ⟨rfl, rfl, rfl, trivial⟩ ⟨0, X, W, rfl, rfl, Nat.zero_le _, rfl, h, Turns.refl h.has, rfl⟩ ?_
  rintro _ w1 r ⟨i, X', W', rfl, rfl, hi, hw, hst, hT, hr⟩
  (conv => whnf)
  refine brD (fun h3 => ?_) (fun h3 => ?_)
  · obtain ⟨j, hj⟩ : ∃ j, 24 - i = j + 1 := ⟨24 - i - 1, by omega⟩
    rw [hj] at hr
    (conv => whnf)
    rw [← hw]
    refine (wtick_ok n hst (by omega)).mono ?_
    rintro v w2 ⟨rfl, X2, hw2, hT2⟩
    have hst2 := hst.turns hT2 (hst.ok.tick (by omega) n)
    have hT3 := hT.trans hT2
    cases he : (W'.tick n).1 with
    | succ e =>
      have hr2 : W.settle n 24 = W'.tick n := by
        rw [hr]
        show (if (W'.tick n).1 ≠ 0 then _ else _) = _
        rw [if_pos (by rw [he]; exact Nat.succ_ne_zero e)]
      repeat' ((conv => whnf); first | refine RetC.mk ?_ | refine NzC.mk (by decide) ?_ | refine RngC.mk (by omega) (by omega) ?_ | refine IdxC.mk (by omega) (by omega) ?_ | refine brD (fun _ => ?_) (fun _ => ?_) | refine brND (fun _ => ?_) (fun _ => ?_) | refine brN (fun _ => ?_) (fun _ => ?_) | refine brI (fun _ => ?_) (fun _ => ?_))
      rw [hr2]
      exact ⟨by rw [he], X2, hw2.trans hw, hT3⟩
    | zero =>
      have hr2 : W.settle n 24 = ((W'.tick n).2.land (W'.tick n).2.fly.length).settle n j := by
        rw [hr]
        show (if (W'.tick n).1 ≠ 0 then _ else _) = _
        rw [if_neg (fun h => h he)]
      rw [← hw2]
      generalize (W'.tick n).2 = V at hr2 hst2 hT2 hT3
      (conv => whnf)
      refine loopR tabOk (fun σ w' r => ∃ (X4 : WorldA) (V4 : WorldS), σ = [(6, .int .i64 i), (1, .int .i64 n), (0, .pointer (some ⟨X2.w, 0, none⟩))] ∧ r = V4.fly.length ∧ X4.w = X2.w ∧ Stands E q (m + 34 * i + 34) w' X4 V4 ∧ Turns w w' (worldH X W) (worldH X4 V4) ∧ V.land V.fly.length = V4.land V4.fly.length)
        (σ' := [(6, .int .i64 i), (1, .int .i64 n), (0, .pointer (some ⟨X2.w, 0, none⟩))]) (n := V.fly.length) ⟨rfl, rfl, rfl, trivial⟩ ⟨X2, V, rfl, rfl, rfl, hst2, hT3, rfl⟩ ?_
      rintro _ w4 r ⟨X4, V4, rfl, rfl, hw4, hst4, hT4, hr4⟩
      (conv => whnf)
      rw [← hw4]
      refine (wdeliver_ok 0 hst4).mono ?_
      rintro v w5 ⟨rfl, X5, hw5, hT5⟩
      cases hf : V4.fly.length with
      | zero =>
        rw [deliver_none hf] at hT5 ⊢
        (conv => whnf)
        refine RngC.mk (by omega) (by omega) ?_
        (conv => whnf)
        refine LoopE.mk ⟨_, [(6, .int .i64 ((i + 1 : Nat) : Int)), (1, _), (0, .pointer (some ⟨X4.w, 0, none⟩))], ?_, ⟨rfl, rfl, rfl, trivial⟩, ⟨i + 1, X5, V4, rfl, rfl, by omega, hw5, hst4.turns hT5 hst4.ok, hT4.trans hT5, ?_⟩⟩
        · omega
        · rw [hr2, hr4, hf]
          show V4.settle n j = V4.settle n (24 - (i + 1))
          congr 1
          omega
      | succ l =>
        obtain ⟨hd1, hd2⟩ := deliver0 hf
        rw [hd1]
        (conv => whnf)
        refine LoopE.mk ⟨_, [(6, _), (1, _), (0, .pointer (some ⟨X4.w, 0, none⟩))], ?_, ⟨rfl, rfl, rfl, trivial⟩, ⟨X5, (V4.deliver 0).2, rfl, rfl, hw5, hst4.turns hT5 (hst4.ok.deliver 0), hT4.trans hT5, ?_⟩⟩
        · omega
        · rw [hr4, hf, hd2]
          show (if V4.fly.length = 0 then _ else _) = _
          rw [if_neg (by omega)]
  · obtain rfl : i = 24 := by omega
    repeat' ((conv => whnf); first | refine RetC.mk ?_ | refine NzC.mk (by decide) ?_ | refine RngC.mk (by omega) (by omega) ?_ | refine IdxC.mk (by omega) (by omega) ?_ | refine brD (fun _ => ?_) (fun _ => ?_) | refine brND (fun _ => ?_) (fun _ => ?_) | refine brN (fun _ => ?_) (fun _ => ?_) | refine brI (fun _ => ?_) (fun _ => ?_))
    rw [hr]
    exact ⟨rfl, X', hw, hT⟩
end
end Go.Proofs.YtoaghhcjlfiflaaGreatDoor

/-
  A closed fact: a world of no rules begins, ticks, and knows its first claim.
-/
namespace Go.Proofs.YtoaghhcjlfiflaaGreatDoor
open Go Ev
def bornFacts : Bool :=
  let R := (WorldS.born []).ticks 0 10
  let D := R.2.deliver 0
  R.1 == 0 && R.2.to == -1 && R.2.epoch == 0 && R.2.fly.length == 1 && D.1 == 0 && D.2.to == 0 && D.2.epoch == 2 && D.2.events.length == 1
theorem bornFacts_true : bornFacts = true := by decide +kernel
theorem born_plain : ((WorldS.born []).ticks 0 10).1 = 0 ∧ ((WorldS.born []).ticks 0 10).2.to = -1 ∧ ((WorldS.born []).ticks 0 10).2.epoch = 0 ∧ ((WorldS.born []).ticks 0 10).2.fly.length = 1 ∧ (((WorldS.born []).ticks 0 10).2.deliver 0).1 = 0 ∧ (((WorldS.born []).ticks 0 10).2.deliver 0).2.to = 0 ∧ (((WorldS.born []).ticks 0 10).2.deliver 0).2.epoch = 2 ∧ (((WorldS.born []).ticks 0 10).2.deliver 0).2.events.length = 1 := by
  have h := bornFacts_true
  unfold bornFacts at h
  simpa [Bool.and_eq_true, and_assoc] using h
section
variable {w w' : World} {X : WorldA} {W : WorldS} {E : Nat → Addr} {q m : Nat}
/-- What a call turned is new since w. -/
theorem Ext.new_of {H H' : List Ent} {w w1 w' : World} (h : Ext No w w1) (hf : ∀ b, inF H b → w.heap.size ≤ b) (k : Turns w1 w' H H') : Ext No w w' := h.then k.ext fun b hb => .inr (hf b hb)
theorem fresh_turns {H H' : List Ent} {w w1 w' : World} (h : Ext No w w1) (hf : ∀ b, inF H b → w.heap.size ≤ b) (k : Turns w1 w' H H') : ∀ b, inF H' b → w.heap.size ≤ b := fun b ⟨e, he, hb⟩ => (k.foot e he b hb).elim (hf b) fun g => Nat.le_trans h.size g
theorem born_ok' (hE : Errs w E q insErrs) (hq : q ≤ w.heap.size) : CallC Tryz.prog 9 #[] w fun v w' => v = .bool true ∧ Ext No w w' := by
  obtain ⟨b1, b2, b3, b4, b5, b6, b7, b8⟩ := born_plain
  have hnil : Slc w 5 encRule (fun _ => True) none 0 ([] : List RuleS) := ⟨rfl, by decide, fun k x hk => by simp at hk, fun _ _ => trivial⟩
  refine fn_intro tabOk Tryz.func9 (by kernel_rfl) rfl Tryz.ntmps9 (Nat.le_of_ble_eq_true rfl) ?_
  (conv => whnf)
  refine (wnew_ok hnil (by decide) hE hq (by decide)).mono ?_
  rintro v w1 ⟨X, rfl, hx, hst, hf⟩
  (conv => whnf)
  generalize WorldS.born [] = V at *
  refine loopR tabOk (fun σ w' r => ∃ (i : Nat) (X' : WorldA) (W' : WorldS), σ = [(3, .int .i64 i), (1, .pointer (some ⟨X.w, 0, none⟩))] ∧ r = 10 - i ∧ i ≤ 10 ∧ X'.w = X.w ∧ Stands E q (34 * i) w' X' W' ∧ Turns w1 w' (worldH X V) (worldH X' W') ∧ V.ticks 0 10 = W'.ticks 0 (10 - i))
    (σ' := [(3, .int .i64 ((0 : Nat) : Int)), (1, .pointer (some ⟨X.w, 0, none⟩))]) (n := 10) ⟨rfl, rfl, trivial⟩ ⟨0, X, V, rfl, rfl, Nat.zero_le _, rfl, hst, Turns.refl hst.has, rfl⟩ ?_
  rintro _ w2 r ⟨i, X', W', rfl, rfl, hi, hw, hst2, hT, hr⟩
  (conv => whnf)
  refine brD (fun h3 => ?_) (fun h3 => ?_)
  · obtain ⟨j, hj⟩ : ∃ j, 10 - i = j + 1 := ⟨10 - i - 1, by omega⟩
    rw [hj] at hr
    (conv => whnf)
    rw [← hw]
    refine (wtick_ok 0 hst2 (by omega)).mono ?_
    rintro v w3 ⟨rfl, X3, hw3, hT3⟩
    have hst3 := hst2.turns hT3 (hst2.ok.tick (by omega) 0)
    have he : (W'.tick 0).1 = 0 := by
      refine Classical.byContradiction fun h => ?_
      rw [hr, show W'.ticks 0 (j + 1) = if (W'.tick 0).1 ≠ 0 then W'.tick 0 else (W'.tick 0).2.ticks 0 j from rfl, if_pos h] at b1
      exact h b1
    have hr2 : V.ticks 0 10 = (W'.tick 0).2.ticks 0 j := by
      rw [hr, show W'.ticks 0 (j + 1) = if (W'.tick 0).1 ≠ 0 then W'.tick 0 else (W'.tick 0).2.ticks 0 j from rfl, if_neg (fun h => h he)]
    rw [he]
    (conv => whnf)
    refine RngC.mk (by omega) (by omega) ?_
    (conv => whnf)
    refine LoopE.mk ⟨_, [(3, .int .i64 ((i + 1 : Nat) : Int)), (1, .pointer (some ⟨X'.w, 0, none⟩))], ?_, ⟨rfl, rfl, trivial⟩, ⟨i + 1, X3, (W'.tick 0).2, rfl, rfl, by omega, hw3, hst3, hT.trans hT3, by rw [hr2]; congr 1; omega⟩⟩
    omega
  · obtain rfl : i = 10 := by omega
    rw [hr] at b1 b2 b3 b4 b5 b6 b7 b8
    change W'.to = _ at b2
    change W'.epoch = _ at b3
    change W'.fly.length = _ at b4
    change (W'.deliver 0).1 = _ at b5
    change (W'.deliver 0).2.to = _ at b6
    change (W'.deliver 0).2.epoch = _ at b7
    change (W'.deliver 0).2.events.length = _ at b8
    rw [← hw]
    (conv => whnf)
    refine (wswitch_ok hst2.has).mono ?_
    rintro v w3 ⟨rfl, hx3⟩
    rw [b2, b3]
    have hst3 := hst2.no hx3
    (conv => whnf)
    refine (wflying_ok hst3).mono ?_
    rintro v w4 ⟨a', c', vs', rfl, hx4, _⟩
    have hst4 := hst3.no hx4
    rw [b4]
    (conv => whnf)
    refine (wdeliver_ok 0 hst4).mono ?_
    rintro v w5 ⟨rfl, X5, hw5, hT5⟩
    rw [b5, ← hw5]
    have hst5 := hst4.turns hT5 (hst4.ok.deliver 0)
    (conv => whnf)
    refine (wswitch_ok hst5.has).mono ?_
    rintro v w6 ⟨rfl, hx6⟩
    rw [b6, b7]
    have hst6 := hst5.no hx6
    (conv => whnf)
    refine (wevents_ok hst6).mono ?_
    rintro v w7 ⟨a7, c7, rfl, hx7, _⟩
    rw [b8]
    repeat' ((conv => whnf); first | refine RetC.mk ?_ | refine NzC.mk (by decide) ?_ | refine RngC.mk (by omega) (by omega) ?_ | refine IdxC.mk (by omega) (by omega) ?_ | refine brD (fun _ => ?_) (fun _ => ?_) | refine brND (fun _ => ?_) (fun _ => ?_) | refine brN (fun _ => ?_) (fun _ => ?_) | refine brI (fun _ => ?_) (fun _ => ?_))
    refine ⟨rfl, ?_⟩
    have hT7 := (((hT.trans (Turns.of_no hst2.has (hx3.trans hx4))).trans hT5).trans (Turns.of_no hst5.has (hx6.trans hx7)))
    exact Ext.new_of hx hf hT7
end
end Go.Proofs.YtoaghhcjlfiflaaGreatDoor

namespace Go.Proofs.YtoaghhcjlfiflaaGreatDoor
open Go Ev
section
variable {w : World} {b : Nat} {r : RoleS}
theorem ref_hear (e : Int) (hb : Blk w b 178 (encRole r)) : CallC Tryz.prog 179 #[.pointer (some ⟨b, 0, none⟩), .int .i64 e] w fun v w' => v = .bool (r.hear e).1 ∧ Ext (· = b) w w' ∧ Blk w' b 178 (encRole (r.hear e).2) := by
  refine fn_intro tabOk Tryz.func179 (by kernel_rfl) rfl Tryz.ntmps179 (Nat.le_of_ble_eq_true rfl) ?_
  have hS := (St.start w (· = b)).add (blk_local b _ _) hb (by simp [blk]; exact hb.lt) (by simp)
  (conv => whnf)
  refine brD (fun h1 => ?_) (fun h1 => ?_)
  · repeat' ((conv => whnf); first | refine RetC.mk ?_ | refine NzC.mk (by decide) ?_ | refine RngC.mk (by omega) (by omega) ?_ | refine IdxC.mk (by omega) (by omega) ?_ | refine brD (fun _ => ?_) (fun _ => ?_) | refine brND (fun _ => ?_) (fun _ => ?_) | refine brN (fun _ => ?_) (fun _ => ?_) | refine brI (fun _ => ?_) (fun _ => ?_))
    rw [show r.hear e = (false, r) from if_pos (.inl h1)]
    exact ⟨rfl, hS.ext, hS.blk 0 rfl⟩
  (conv => whnf)
  refine brD (fun h2 => ?_) (fun h2 => ?_)
  · repeat' ((conv => whnf); first | refine RetC.mk ?_ | refine NzC.mk (by decide) ?_ | refine RngC.mk (by omega) (by omega) ?_ | refine IdxC.mk (by omega) (by omega) ?_ | refine brD (fun _ => ?_) (fun _ => ?_) | refine brND (fun _ => ?_) (fun _ => ?_) | refine brN (fun _ => ?_) (fun _ => ?_) | refine brI (fun _ => ?_) (fun _ => ?_))
    rw [show r.hear e = (false, r) from if_pos (.inr h2)]
    exact ⟨rfl, hS.ext, hS.blk 0 rfl⟩
  (conv => whnf)
  refine hS.ld 0 rfl rfl ?_
  (conv => whnf)
  refine brD (fun h3 => ?_) (fun h3 => ?_)
  · (conv => whnf)
    refine hS.ld 0 rfl (v := .bool r.active) rfl ?_
    (conv => whnf)
    refine hS.st 0 rfl (Nat.le_of_ble_eq_true rfl) rfl (fun w' hS => ?_)
    (conv => whnf)
    refine hS.st 0 rfl (Nat.le_of_ble_eq_true rfl) rfl (fun w' hS => ?_)
    (conv => whnf)
    refine hS.ld 0 rfl rfl ?_
    (conv => whnf)
    refine hS.ld 0 rfl rfl ?_
    (conv => whnf)
    refine brD (fun h5 => ?_) (fun h5 => ?_)
    · (conv => whnf)
      refine hS.st 0 rfl (Nat.le_of_ble_eq_true rfl) rfl (fun w' hS => ?_)
      repeat' ((conv => whnf); first | refine RetC.mk ?_ | refine NzC.mk (by decide) ?_ | refine RngC.mk (by omega) (by omega) ?_ | refine IdxC.mk (by omega) (by omega) ?_ | refine brD (fun _ => ?_) (fun _ => ?_) | refine brND (fun _ => ?_) (fun _ => ?_) | refine brN (fun _ => ?_) (fun _ => ?_) | refine brI (fun _ => ?_) (fun _ => ?_))
      rw [show r.hear e = (r.active, { r with epoch := e, active := false, silence := 0 }) by
        unfold RoleS.hear
        rw [if_neg (by omega)]
        simp [h3]]
      exact ⟨rfl, hS.ext, hS.blk 0 rfl⟩
    · exact absurd rfl h5
  (conv => whnf)
  refine hS.ld 0 rfl rfl ?_
  (conv => whnf)
  refine brN (fun h4 => ?_) (fun h4 => ?_)
  · (conv => whnf)
    refine hS.ld 0 rfl rfl ?_
    (conv => whnf)
    refine brD (fun h5 => ?_) (fun h5 => ?_)
    · (conv => whnf)
      refine hS.st 0 rfl (Nat.le_of_ble_eq_true rfl) rfl (fun w' hS => ?_)
      repeat' ((conv => whnf); first | refine RetC.mk ?_ | refine NzC.mk (by decide) ?_ | refine RngC.mk (by omega) (by omega) ?_ | refine IdxC.mk (by omega) (by omega) ?_ | refine brD (fun _ => ?_) (fun _ => ?_) | refine brND (fun _ => ?_) (fun _ => ?_) | refine brN (fun _ => ?_) (fun _ => ?_) | refine brI (fun _ => ?_) (fun _ => ?_))
      rw [show r.hear e = (false, { r with silence := 0 }) by
        unfold RoleS.hear
        rw [if_neg (by omega)]
        simp [h3, h4, h5]]
      exact ⟨rfl, hS.ext, hS.blk 0 rfl⟩
    · repeat' ((conv => whnf); first | refine RetC.mk ?_ | refine NzC.mk (by decide) ?_ | refine RngC.mk (by omega) (by omega) ?_ | refine IdxC.mk (by omega) (by omega) ?_ | refine brD (fun _ => ?_) (fun _ => ?_) | refine brND (fun _ => ?_) (fun _ => ?_) | refine brN (fun _ => ?_) (fun _ => ?_) | refine brI (fun _ => ?_) (fun _ => ?_))
      rw [show r.hear e = (false, r) by
        unfold RoleS.hear
        rw [if_neg (by omega)]
        simp [h3, h5]]
      exact ⟨rfl, hS.ext, hS.blk 0 rfl⟩
  · repeat' ((conv => whnf); first | refine RetC.mk ?_ | refine NzC.mk (by decide) ?_ | refine RngC.mk (by omega) (by omega) ?_ | refine IdxC.mk (by omega) (by omega) ?_ | refine brD (fun _ => ?_) (fun _ => ?_) | refine brND (fun _ => ?_) (fun _ => ?_) | refine brN (fun _ => ?_) (fun _ => ?_) | refine brI (fun _ => ?_) (fun _ => ?_))
    rw [show r.hear e = (false, r) by
      unfold RoleS.hear
      rw [if_neg (by omega)]
      simp [h3, h4]]
    exact ⟨rfl, hS.ext, hS.blk 0 rfl⟩
end
end Go.Proofs.YtoaghhcjlfiflaaGreatDoor

/-
  The reference's numbers as bytes, walked: Byte, Wide, value.
-/
namespace Go.Proofs.YtoaghhcjlfiflaaGreatDoor
open Go Ev

theorem rbyte_ok (n : Nat) (hn : n < 256) (w : World) : CallC Tryz.prog 161 #[.int .i64 (n : Int)] w fun v w' => v = .string (bs [UInt8.ofNat n]) ∧ Ext No w w' := by
  have hb : ((UInt8.ofNat n).toNat : Int) = (n : Int) := by rw [byte_of]; omega
  refine fn_intro tabOk Tryz.func161 (by kernel_rfl) rfl Tryz.ntmps161 (Nat.le_of_ble_eq_true rfl) ?_
  have hS := St.start w No
  (conv => whnf)
  refine convI (kd := .u8) (m := ((UInt8.ofNat n).toNat : Int)) (by kernel_rfl) Tryz.underlying5 (by rw [IntKind.wrap_u8', hb]; omega) ?_
  (conv => whnf)
  refine hS.lit (cs := encU (UInt8.ofNat n)) Tryz.underlying169 (sz := 1) (by kernel_rfl) (z := .int .u8 0) (by kernel_rfl) rfl rfl (by rfl) (fun bz w' hbz hS => ?_)
  have h0 : CellsAt w' bz 0 ([UInt8.ofNat n].flatMap encU) := (hS.blk 0 rfl).cells rfl
  (conv => whnf)
  refine strC Tryz.underlying169 Tryz.underlying5 Tryz.underlying9 h0 rfl ?_
  repeat' ((conv => whnf); first | refine RetC.mk ?_ | refine NzC.mk (by decide) ?_ | refine RngC.mk (by omega) (by omega) ?_ | refine IdxC.mk (by omega) (by omega) ?_ | refine brD (fun _ => ?_) (fun _ => ?_) | refine brND (fun _ => ?_) (fun _ => ?_) | refine brN (fun _ => ?_) (fun _ => ?_) | refine brI (fun _ => ?_) (fun _ => ?_))
  exact ⟨rfl, hS.ext⟩
theorem numB_head (n m : Nat) : numB n (m + 1) = UInt8.ofNat (n / 256 ^ m) :: numB n m := by
  unfold numB
  rw [List.range_succ_eq_map, List.map_cons, List.map_map]
  congr 1
  apply List.map_congr_left
  intro j hj
  have hj := List.mem_range.1 hj
  simp only [Function.comp]
  rw [show m + 1 - 1 - (j + 1) = m - 1 - j by omega]
theorem wide_ok (n m : Nat) (hm : m ≤ 100) (hn : n < 9223372036854775808) (w : World) :
    CallC Tryz.prog 203 #[.int .i64 (n : Int), .int .i64 (m : Int)] w fun v w' => v = .string (bs (numB n m)) ∧ Ext No w w' := by
  refine fn_intro tabOk Tryz.func203 (by kernel_rfl) rfl Tryz.ntmps203 (Nat.le_of_ble_eq_true rfl) ?_
  have hS := St.start w No
  (conv => whnf)
  refine loopR tabOk (fun σ w' q => ∃ i : Nat, σ = [(6, .int .i64 i), (5, .string (bs (numB n i))), (1, .int .i64 m), (0, .int .i64 (n / 256 ^ i : Nat))] ∧ q = m - i ∧ i ≤ m ∧ St w No w' [])
    (σ' := [(6, .int .i64 ((0 : Nat) : Int)), (5, .string (bs (numB n 0))), (1, .int .i64 m), (0, .int .i64 n)]) (n := m) ⟨rfl, rfl, rfl, rfl, trivial⟩ ⟨0, by simp, rfl, Nat.zero_le _, hS⟩ ?_
  clear hS
  rintro _ w1 q ⟨i, rfl, rfl, hi, hS⟩
  have hle : n / 256 ^ i ≤ n := Nat.div_le_self _ _
  have hst := numB_head n i
  have hdd : n / 256 ^ (i + 1) = n / 256 ^ i / 256 := by rw [Nat.pow_succ, Nat.div_div_eq_div_mul]
  have hof : UInt8.ofNat (n / 256 ^ i) = UInt8.ofNat (n / 256 ^ i % 256) := by
    apply UInt8.toNat_inj.1
    rw [UInt8.toNat_ofNat', UInt8.toNat_ofNat']
    omega
  generalize n / 256 ^ i = d at hle hst hdd hof
  (conv => whnf)
  refine brD (fun h3 => ?_) (fun h3 => ?_)
  · have hm1 : (d : Int).tmod 256 = ((d % 256 : Nat) : Int) := by rw [Int.tmod_eq_emod_of_nonneg (by omega)]; omega
    have hd1 : (d : Int).tdiv 256 = ((d / 256 : Nat) : Int) := by rw [Int.tdiv_eq_ediv_of_nonneg (by omega)]; omega
    (conv => whnf)
    refine NzC.mk (by decide) ?_
    rw [hm1]
    (conv => whnf)
    refine (rbyte_ok (d % 256) (by omega) _).mono ?_
    rintro v w' ⟨rfl, hx⟩
    replace hS := hS.no hx
    (conv => whnf)
    refine addS (by rw [numB_len]; simp; omega) ?_
    rw [← hof, List.singleton_append, ← hst]
    (conv => whnf)
    refine NzC.mk (by decide) ?_
    rw [hd1]
    (conv => whnf)
    refine RngC.mk (by omega) (by omega) ?_
    (conv => whnf)
    refine RngC.mk (by omega) (by omega) ?_
    (conv => whnf)
    refine LoopE.mk ⟨_, [(6, .int .i64 ((i + 1 : Nat) : Int)), (5, _), (1, _), (0, .int .i64 (n / 256 ^ (i + 1) : Nat))], ?_, ⟨rfl, rfl, rfl, by rw [hdd]; rfl, trivial⟩, ⟨i + 1, rfl, rfl, by omega, hS⟩⟩
    omega
  · obtain rfl : i = m := by omega
    repeat' ((conv => whnf); first | refine RetC.mk ?_ | refine NzC.mk (by decide) ?_ | refine RngC.mk (by omega) (by omega) ?_ | refine IdxC.mk (by omega) (by omega) ?_ | refine brD (fun _ => ?_) (fun _ => ?_) | refine brND (fun _ => ?_) (fun _ => ?_) | refine brN (fun _ => ?_) (fun _ => ?_) | refine brI (fun _ => ?_) (fun _ => ?_))
    exact ⟨rfl, hS.ext⟩
end Go.Proofs.YtoaghhcjlfiflaaGreatDoor

/-
  The reference's CRC, Body and value, walked: they are sum, body and value.
-/
namespace Go.Proofs.YtoaghhcjlfiflaaGreatDoor
open Go Ev

def rIt (x : Nat) : Nat → Nat → Nat
  | 0, c => c
  | k + 1, c => if (rIt x k c ^^^ x / 2 ^ k) % 2 = 1 then rIt x k c / 2 ^^^ 3988292384 else rIt x k c / 2
theorem xor_half (a b : Nat) : (a ^^^ b) / 2 ^ 1 = a / 2 ^ 1 ^^^ b / 2 ^ 1 := by
  have := Nat.shiftRight_xor_distrib (a := a) (b := b) (i := 1)
  simpa [Nat.shiftRight_eq_div_pow] using this
theorem rIt_eq (x c : Nat) : ∀ k, crcIt k (c ^^^ x) = rIt x k c ^^^ x / 2 ^ k
  | 0 => by simp [crcIt, rIt]
  | k + 1 => by
    have ih := rIt_eq x c k
    have e : x / 2 ^ (k + 1) = x / 2 ^ k / 2 ^ 1 := by rw [Nat.pow_succ, Nat.div_div_eq_div_mul]
    unfold crcIt crcBit rIt
    rw [ih, xor_half, Nat.and_one_is_mod, e]
    generalize x / 2 ^ k = q
    generalize rIt x k c = r
    split
    · rename_i h
      rw [h, Nat.mul_one, Nat.pow_one, Nat.xor_assoc, Nat.xor_assoc]
      first | done | rw [Nat.xor_comm (q / 2)]
    · rename_i h
      have : (r ^^^ q) % 2 = 0 := by omega
      rw [this, Nat.mul_zero, Nat.pow_one, Nat.xor_zero]
theorem rIt_byte (c : Nat) (x : UInt8) : rIt x.toNat 8 c = crcByte c x := by
  unfold crcByte
  rw [rIt_eq]
  have := x.toNat_lt
  rw [Nat.div_eq_of_lt (by omega), Nat.xor_zero]
theorem rIt_lt {c x : Nat} (h : c < 4294967296) : ∀ k, rIt x k c < 4294967296
  | 0 => h
  | k + 1 => by
    have := rIt_lt (x := x) h k
    unfold rIt
    split
    · exact Nat.xor_lt_two_pow (n := 32) (by omega) (by omega)
    · omega

theorem crc_ok (l : List UInt8) (hl : l.length ≤ 1000000) (w : World) :
    CallC Tryz.prog 204 #[.string (bs l)] w fun v w' => v = .int .i64 (sumB l : Nat) ∧ Ext No w w' := by
  refine fn_intro tabOk Tryz.func204 (by kernel_rfl) rfl Tryz.ntmps204 (Nat.le_of_ble_eq_true rfl) ?_
  have hS := St.start w No
  (conv => whnf)
  refine loopR tabOk (fun σ w' q => ∃ i : Nat, σ = [(4, .int .i64 i), (3, .int .i64 (crcN (l.take i) : Nat)), (0, .string (bs l))] ∧ q = l.length - i ∧ i ≤ l.length ∧ St w No w' [])
    (σ' := [(4, .int .i64 ((0 : Nat) : Int)), (3, .int .i64 ((4294967295 : Nat) : Int)), (0, .string (bs l))]) (n := l.length) ⟨rfl, rfl, rfl, trivial⟩ ⟨0, rfl, rfl, Nat.zero_le _, hS⟩ ?_
  clear hS
  rintro _ w1 q ⟨i, rfl, rfl, hi, hS⟩
  (conv => whnf)
  rw [bs_size]
  refine brD (fun h3 => ?_) (fun h3 => ?_)
  · obtain ⟨x, hx⟩ : ∃ x, l[i]? = some x := ⟨_, List.getElem?_eq_getElem (by omega)⟩
    have hst := crcN_step hx
    have hlt := crcN_lt (l.take i)
    have hx8 := x.toNat_lt
    generalize crcN (l.take i) = c at hst hlt
    (conv => whnf)
    refine loopR tabOk (fun σ w' q => ∃ j : Nat, σ = [(5, .int .i64 j), (4, .int .i64 i), (3, .int .i64 (rIt x.toNat j c : Nat)), (0, .string (bs l))] ∧ q = 8 - j ∧ j ≤ 8 ∧ St w No w' [])
      (σ' := [(5, .int .i64 ((0 : Nat) : Int)), (4, .int .i64 i), (3, .int .i64 (rIt x.toNat 0 c : Nat)), (0, .string (bs l))]) (n := 8) ⟨rfl, rfl, rfl, rfl, trivial⟩ ⟨0, rfl, rfl, Nat.zero_le _, hS⟩ ?_
    clear hS
    rintro _ w2 q ⟨j, rfl, rfl, hj, hS⟩
    have hd := rIt_lt (x := x.toNat) hlt j
    have hdd : rIt x.toNat (j + 1) c = if (rIt x.toNat j c ^^^ x.toNat / 2 ^ j) % 2 = 1 then rIt x.toNat j c / 2 ^^^ 3988292384 else rIt x.toNat j c / 2 := rfl
    have h88 := rIt_byte c x
    have hq : x.toNat / 2 ^ j ≤ x.toNat := Nat.div_le_self _ _
    (conv => whnf)
    refine brD (fun h4 => ?_) (fun h4 => ?_)
    · generalize rIt x.toNat j c = d at hd hdd
      (conv => whnf)
      refine idxS Tryz.underlying9 rfl hx ?_
      (conv => whnf)
      refine convI (kd := .i64) (m := (x.toNat : Int)) (by kernel_rfl) Tryz.underlying3 (by rw [IntKind.wrap_i64]; omega) ?_
      (conv => whnf)
      refine convI (kd := .u64) (m := (j : Int)) (by kernel_rfl) Tryz.underlying257 (by simp [IntKind.wrap, IntKind.bits, IntKind.signed]; omega) ?_
      (conv => whnf)
      refine shrN (n := j) rfl (by show j ≤ 64; omega) ?_
      (conv => whnf)
      refine xorC64 (by omega) (by omega) ?_
      have hm : ((d ^^^ x.toNat / 2 ^ j : Nat) : Int).tmod 2 = (((d ^^^ x.toNat / 2 ^ j) % 2 : Nat) : Int) := by rw [Int.tmod_eq_emod_of_nonneg (by omega)]; omega
      have hd2 : (d : Int).tdiv 2 = ((d / 2 : Nat) : Int) := by rw [Int.tdiv_eq_ediv_of_nonneg (by omega)]; omega
      (conv => whnf)
      refine NzC.mk (by decide) ?_
      rw [hm]
      generalize d ^^^ x.toNat / 2 ^ j = z at hdd
      (conv => whnf)
      refine NzC.mk (by decide) ?_
      rw [hd2]
      (conv => whnf)
      refine RngC.mk (by omega) (by omega) ?_
      (conv => whnf)
      refine brD (fun h5 => ?_) (fun h5 => ?_)
      · rw [if_pos (by omega)] at hdd
        (conv => whnf)
        refine xorC64 (b := 3988292384) (by omega) (by omega) ?_
        rw [← hdd]
        (conv => whnf)
        refine RngC.mk (by omega) (by omega) ?_
        (conv => whnf)
        refine LoopE.mk ⟨_, [(5, .int .i64 ((j + 1 : Nat) : Int)), (4, _), (3, _), (0, _)], ?_, ⟨rfl, rfl, rfl, rfl, trivial⟩, ⟨j + 1, rfl, rfl, by omega, hS⟩⟩
        omega
      · rw [if_neg (by omega)] at hdd
        rw [← hdd]
        (conv => whnf)
        refine RngC.mk (by omega) (by omega) ?_
        (conv => whnf)
        refine LoopE.mk ⟨_, [(5, .int .i64 ((j + 1 : Nat) : Int)), (4, _), (3, _), (0, _)], ?_, ⟨rfl, rfl, rfl, rfl, trivial⟩, ⟨j + 1, rfl, rfl, by omega, hS⟩⟩
        omega
    · obtain rfl : j = 8 := by omega
      rw [h88, ← hst]
      (conv => whnf)
      refine RngC.mk (by omega) (by omega) ?_
      (conv => whnf)
      refine LoopE.mk ⟨_, [(4, .int .i64 ((i + 1 : Nat) : Int)), (3, _), (0, _)], ?_, ⟨rfl, rfl, rfl, trivial⟩, ⟨i + 1, rfl, rfl, by omega, hS⟩⟩
      omega
  · obtain rfl : i = l.length := by omega
    rw [List.take_length]
    have h1 := crcN_lt l
    (conv => whnf)
    refine xorC64 (b := 4294967295) (by omega) (by omega) ?_
    rw [Nat.xor_comm]
    repeat' ((conv => whnf); first | refine RetC.mk ?_ | refine NzC.mk (by decide) ?_ | refine RngC.mk (by omega) (by omega) ?_ | refine IdxC.mk (by omega) (by omega) ?_ | refine brD (fun _ => ?_) (fun _ => ?_) | refine brND (fun _ => ?_) (fun _ => ?_) | refine brN (fun _ => ?_) (fun _ => ?_) | refine brI (fun _ => ?_) (fun _ => ?_))
    exact ⟨rfl, hS.ext⟩

theorem rbody_ok (n e l : Nat) (hn : n < 9223372036854775808) (he : e < 9223372036854775808) (hl : l < 9223372036854775808) (w : World) :
    CallC Tryz.prog 160 #[.int .i64 (n : Int), .int .i64 (e : Int), .int .i64 (l : Int)] w fun v w' => v = .string (bs (bodyB n e l)) ∧ Ext No w w' := by
  have hs := sumB_lt (headB n e l)
  refine fn_intro tabOk Tryz.func160 (by kernel_rfl) rfl Tryz.ntmps160 (Nat.le_of_ble_eq_true rfl) ?_
  have hS := St.start w No
  (conv => whnf)
  refine (wide_ok n 4 (by omega) hn _).mono ?_
  rintro v w' ⟨rfl, hx⟩
  replace hS := hS.no hx
  (conv => whnf)
  refine (wide_ok e 4 (by omega) he _).mono ?_
  rintro v w' ⟨rfl, hx⟩
  replace hS := hS.no hx
  (conv => whnf)
  refine addS (by simp [numB_len]) ?_
  (conv => whnf)
  refine (wide_ok l 4 (by omega) hl _).mono ?_
  rintro v w' ⟨rfl, hx⟩
  replace hS := hS.no hx
  (conv => whnf)
  refine addS (by simp [numB_len]) ?_
  rw [show numB n 4 ++ numB e 4 ++ numB l 4 = headB n e l from rfl]
  (conv => whnf)
  refine (crc_ok (headB n e l) (by rw [headB_len]; omega) _).mono ?_
  rintro v w' ⟨rfl, hx⟩
  replace hS := hS.no hx
  (conv => whnf)
  refine (wide_ok (sumB (headB n e l)) 4 (by omega) (by omega) _).mono ?_
  rintro v w' ⟨rfl, hx⟩
  replace hS := hS.no hx
  (conv => whnf)
  refine addS (by simp [numB_len, headB_len]) ?_
  repeat' ((conv => whnf); first | refine RetC.mk ?_ | refine NzC.mk (by decide) ?_ | refine RngC.mk (by omega) (by omega) ?_ | refine IdxC.mk (by omega) (by omega) ?_ | refine brD (fun _ => ?_) (fun _ => ?_) | refine brND (fun _ => ?_) (fun _ => ?_) | refine brN (fun _ => ?_) (fun _ => ?_) | refine brI (fun _ => ?_) (fun _ => ?_))
  exact ⟨rfl, hS.ext⟩
theorem rvalue_ok (l : List UInt8) (hl : l.length ≤ 7) (w : World) :
    CallC Tryz.prog 159 #[.string (bs l)] w fun v w' => v = .int .i64 (valB l : Nat) ∧ Ext No w w' := by
  refine fn_intro tabOk Tryz.func159 (by kernel_rfl) rfl Tryz.ntmps159 (Nat.le_of_ble_eq_true rfl) ?_
  have hS := St.start w No
  (conv => whnf)
  refine loopR tabOk (fun σ w' q => ∃ i : Nat, σ = [(4, .int .i64 i), (3, .int .i64 (valB (l.take i) : Nat)), (0, .string (bs l))] ∧ q = l.length - i ∧ i ≤ l.length ∧ St w No w' [])
    (σ' := [(4, .int .i64 ((0 : Nat) : Int)), (3, .int .i64 ((0 : Nat) : Int)), (0, .string (bs l))]) (n := l.length) ⟨rfl, rfl, rfl, trivial⟩ ⟨0, rfl, rfl, Nat.zero_le _, hS⟩ ?_
  clear hS
  rintro _ w1 q ⟨i, rfl, rfl, hi, hS⟩
  (conv => whnf)
  rw [bs_size]
  refine brD (fun h3 => ?_) (fun h3 => ?_)
  · obtain ⟨x, hx⟩ : ∃ x, l[i]? = some x := ⟨_, List.getElem?_eq_getElem (by omega)⟩
    have hst := valB_step hx
    have hlt := valB_lt (l.take i)
    have h7 : 256 ^ (l.take i).length ≤ 256 ^ 6 := Nat.pow_le_pow_right (by omega) (by rw [List.length_take]; omega)
    have hx8 := x.toNat_lt
    generalize valB (l.take i) = v at hst hlt
    have hv : v < 281474976710656 := Nat.lt_of_lt_of_le hlt h7
    (conv => whnf)
    refine RngC.mk (by omega) (by omega) ?_
    (conv => whnf)
    refine idxS Tryz.underlying9 rfl hx ?_
    (conv => whnf)
    refine convI (kd := .i64) (m := (x.toNat : Int)) (by kernel_rfl) Tryz.underlying3 (by rw [IntKind.wrap_i64]; omega) ?_
    (conv => whnf)
    refine RngC.mk (by omega) (by omega) ?_
    rw [show 256 * (v : Int) + (x.toNat : Int) = ((valB (l.take (i + 1)) : Nat) : Int) by rw [hst]; omega]
    (conv => whnf)
    refine RngC.mk (by omega) (by omega) ?_
    (conv => whnf)
    refine LoopE.mk ⟨_, [(4, .int .i64 ((i + 1 : Nat) : Int)), (3, _), (0, _)], ?_, ⟨rfl, rfl, rfl, trivial⟩, ⟨i + 1, rfl, rfl, by omega, hS⟩⟩
    omega
  · obtain rfl : i = l.length := by omega
    rw [List.take_length]
    repeat' ((conv => whnf); first | refine RetC.mk ?_ | refine NzC.mk (by decide) ?_ | refine RngC.mk (by omega) (by omega) ?_ | refine IdxC.mk (by omega) (by omega) ?_ | refine brD (fun _ => ?_) (fun _ => ?_) | refine brND (fun _ => ?_) (fun _ => ?_) | refine brN (fun _ => ?_) (fun _ => ?_) | refine brI (fun _ => ?_) (fun _ => ?_))
    exact ⟨rfl, hS.ext⟩
end Go.Proofs.YtoaghhcjlfiflaaGreatDoor

/-
  The reference's bytes, walked: they do what cell.Bytes does.
-/
namespace Go.Proofs.YtoaghhcjlfiflaaGreatDoor
open Go Ev

/-- How the reference holds it: what is left counts only while it is bounded. -/
structure RBy where
  data : List UInt8
  off : Bool
  left : Int
  bnd : Bool
def encRB (B : RBy) : List Value := [.string (bs B.data), .bool B.off, .int .i64 B.left, .bool B.bnd]
/-- The two stand alike. -/
structure Alike (R : RBy) (B : BytS) : Prop where
  data : R.data = B.data
  off : R.off = B.off
  left : R.bnd = true → R.left = B.left ∧ 0 ≤ B.left
  free : R.bnd = false → B.left = -1
/-! ### How far a write goes -/
theorem write_free : ∀ (s : List UInt8) (d : List UInt8) (p : Nat), p + s.length ≤ d.length → BytS.write ⟨d, false, -1⟩ p s = (true, ⟨laid d p s, false, -1⟩)
  | [], d, p, _ => by rw [laid_nil]; rfl
  | x :: r, d, p, h => by
    rw [List.length_cons] at h
    rw [write_cons, if_neg (by simp)]
    have ih := write_free r (d.set p x) (p + 1) (by rw [List.length_set]; omega)
    rw [laid_cons h] at ih
    exact ih
theorem write_bnd : ∀ (s : List UInt8) (d : List UInt8) (p n : Nat), p + s.length ≤ d.length → BytS.write ⟨d, false, (n : Int)⟩ p s = if s.length ≤ n then (true, ⟨laid d p s, false, (n : Int) - s.length⟩) else (false, ⟨laid d p (s.take n), true, 0⟩)
  | [], d, p, n, _ => by
    rw [laid_nil, if_pos (by simp)]
    simp [write_nil]
  | x :: r, d, p, 0, h => by
    rw [write_cons, if_pos (by simp), if_neg (by simp), List.take_zero, laid_nil]
    rfl
  | x :: r, d, p, n + 1, h => by
    rw [List.length_cons] at h
    have e : (if ((n + 1 : Nat) : Int) - 1 > -1 then ((n + 1 : Nat) : Int) - 1 else -1) = (n : Int) := by
      rw [if_pos (by omega)]
      omega
    have ih := write_bnd r (d.set p x) (p + 1) n (by rw [List.length_set]; omega)
    rw [write_cons, if_neg (by simp; omega)]
    dsimp only
    rw [e, ih, List.take_succ_cons, List.length_cons]
    by_cases hn : r.length ≤ n
    · rw [if_pos hn, if_pos (by omega), laid_cons h]
      congr 2
      omega
    · rw [if_neg hn, if_neg (by omega), laid_cons (by rw [List.length_take]; omega)]
theorem write_off {d : List UInt8} {l : Int} {p : Nat} {s : List UInt8} (hs : s ≠ []) : BytS.write ⟨d, true, l⟩ p s = (false, ⟨d, true, l⟩) := by
  cases s with
  | nil => exact absurd rfl hs
  | cons x r => rw [write_cons, if_pos (.inl rfl)]
section
variable {w : World} {b : Nat} {B : BytS} {R : RBy}
theorem rbon_ok (hb : Blk w b 171 (encRB R)) : CallC Tryz.prog 115 #[.pointer (some ⟨b, 0, none⟩)] w fun _ w' => Ext (· = b) w w' ∧ Blk w' b 171 (encRB ⟨R.data, false, R.left, false⟩) := by
  refine fn_intro tabOk Tryz.func115 (by kernel_rfl) rfl Tryz.ntmps115 (Nat.le_of_ble_eq_true rfl) ?_
  have hS := (St.start w (· = b)).add (blk_local b _ _) hb (by simp [blk]; exact hb.lt) (by simp)
  (conv => whnf)
  refine hS.st 0 rfl (Nat.le_of_ble_eq_true rfl) rfl (fun w' hS => ?_)
  (conv => whnf)
  refine hS.st 0 rfl (Nat.le_of_ble_eq_true rfl) rfl (fun w' hS => ?_)
  repeat' ((conv => whnf); first | refine RetC.mk ?_ | refine NzC.mk (by decide) ?_ | refine RngC.mk (by omega) (by omega) ?_ | refine IdxC.mk (by omega) (by omega) ?_ | refine brD (fun _ => ?_) (fun _ => ?_) | refine brND (fun _ => ?_) (fun _ => ?_) | refine brN (fun _ => ?_) (fun _ => ?_) | refine brI (fun _ => ?_) (fun _ => ?_))
  exact ⟨hS.ext, hS.blk 0 rfl⟩
theorem rbcut_ok (k : Int) (hb : Blk w b 171 (encRB R)) : CallC Tryz.prog 116 #[.pointer (some ⟨b, 0, none⟩), .int .i64 k] w fun v w' => v = .int .i64 ((if k < 0 then 2 else if R.off = true then 7 else 0 : Nat) : Int) ∧ Ext (· = b) w w' ∧ Blk w' b 171 (encRB (if k < 0 ∨ R.off = true then R else ⟨R.data, R.off, k, true⟩)) := by
  refine fn_intro tabOk Tryz.func116 (by kernel_rfl) rfl Tryz.ntmps116 (Nat.le_of_ble_eq_true rfl) ?_
  have hS := (St.start w (· = b)).add (blk_local b _ _) hb (by simp [blk]; exact hb.lt) (by simp)
  (conv => whnf)
  refine brD (fun h1 => ?_) (fun h1 => ?_)
  · repeat' ((conv => whnf); first | refine RetC.mk ?_ | refine NzC.mk (by decide) ?_ | refine RngC.mk (by omega) (by omega) ?_ | refine IdxC.mk (by omega) (by omega) ?_ | refine brD (fun _ => ?_) (fun _ => ?_) | refine brND (fun _ => ?_) (fun _ => ?_) | refine brN (fun _ => ?_) (fun _ => ?_) | refine brI (fun _ => ?_) (fun _ => ?_))
    rw [if_pos h1, if_pos (.inl h1)]
    exact ⟨rfl, hS.ext, hS.blk 0 rfl⟩
  (conv => whnf)
  refine hS.ld 0 rfl rfl ?_
  rw [if_neg h1]
  cases ho : R.off
  · rw [if_neg (by simp), if_neg (by simp [h1])]
    (conv => whnf)
    refine hS.st 0 rfl (Nat.le_of_ble_eq_true rfl) rfl (fun w' hS => ?_)
    (conv => whnf)
    refine hS.st 0 rfl (Nat.le_of_ble_eq_true rfl) rfl (fun w' hS => ?_)
    repeat' ((conv => whnf); first | refine RetC.mk ?_ | refine NzC.mk (by decide) ?_ | refine RngC.mk (by omega) (by omega) ?_ | refine IdxC.mk (by omega) (by omega) ?_ | refine brD (fun _ => ?_) (fun _ => ?_) | refine brND (fun _ => ?_) (fun _ => ?_) | refine brN (fun _ => ?_) (fun _ => ?_) | refine brI (fun _ => ?_) (fun _ => ?_))
    exact ⟨rfl, hS.ext, (hS.blk 0 rfl).to (by rw [← ho]; rfl)⟩
  · rw [if_pos rfl, if_pos (.inr rfl)]
    repeat' ((conv => whnf); first | refine RetC.mk ?_ | refine NzC.mk (by decide) ?_ | refine RngC.mk (by omega) (by omega) ?_ | refine IdxC.mk (by omega) (by omega) ?_ | refine brD (fun _ => ?_) (fun _ => ?_) | refine brND (fun _ => ?_) (fun _ => ?_) | refine brN (fun _ => ?_) (fun _ => ?_) | refine brI (fun _ => ?_) (fun _ => ?_))
    exact ⟨rfl, hS.ext, hS.blk 0 rfl⟩
end
end Go.Proofs.YtoaghhcjlfiflaaGreatDoor

/-
  The reference writes its bytes, walked (region 7: both loads of the data are late, the store turns the same block).
-/
namespace Go.Proofs.YtoaghhcjlfiflaaGreatDoor
open Go Ev

def RBy.cutN (R : RBy) (m : Nat) : Nat := if R.off = true then 0 else if R.bnd = true ∧ R.left < m then R.left.toNat else m
def RBy.offN (R : RBy) (m : Nat) : Bool := if R.off = true then true else if R.bnd = true ∧ R.left < m then true else false
def RBy.write (R : RBy) (p : Nat) (s : List UInt8) : Bool × RBy := (!R.offN s.length, ⟨laid R.data p (s.take (R.cutN s.length)), R.offN s.length, R.left - R.cutN s.length, R.bnd⟩)
section
variable {w : World} {b : Nat} {R : RBy}
theorem rbwrite_ok (p : Nat) (s : List UInt8) (hp : p + s.length ≤ 64) (hl : R.data.length = 64) (hbd : R.bnd = true → 0 ≤ R.left) (hr : -100000000 ≤ R.left ∧ R.left ≤ 9223372036854775807) (hb : Blk w b 171 (encRB R)) :
    CallC Tryz.prog 162 #[.pointer (some ⟨b, 0, none⟩), .int .i64 (p : Int), .string (bs s)] w fun v w' => v = .bool (R.write p s).1 ∧ Ext (· = b) w w' ∧ Blk w' b 171 (encRB (R.write p s).2) := by
  obtain ⟨D, ro, lf, bd⟩ := R
  dsimp only at hl hbd hr
  refine fn_intro tabOk Tryz.func162 (by kernel_rfl) rfl Tryz.ntmps162 (Nat.le_of_ble_eq_true rfl) ?_
  have hS := (St.start w (· = b)).add (blk_local b _ _) hb (by simp [blk]; exact hb.lt) (by simp)
  replace hS : St w (· = b) w [blk b 171 [.string (bs D), .bool ro, .int .i64 lf, .bool bd]] := hS
  unfold RBy.write RBy.cutN RBy.offN
  (conv => whnf)
  rw [bs_size]
  refine hS.ld 0 rfl rfl ?_
  cases ro
  · rw [if_neg Bool.false_ne_true, if_neg Bool.false_ne_true]
    (conv => whnf)
    refine hS.ld 0 rfl rfl ?_
    cases bd
    · (conv => whnf)
      have hc : ¬ (false = true ∧ lf < (s.length : Int)) := by simp
      rw [if_neg hc, if_neg hc]
      have hlaid : D.take p ++ s.take s.length ++ D.drop (p + s.length) = laid D p (s.take s.length) := by
        unfold laid
        rw [List.length_take, Nat.min_eq_left (by omega)]
      refine drawT tabOk mixed [4, 14] (fun q => q = b) (.take 0 (.take 1 (.take 2 (.take 3 (.take 5 (.take 7 (.take 8 (.take 9 (.take 11 (.take 12 (.take 13 (.take 15 (.take 16 (.take 17 (.alt 4 (.take 6 (.take 10 (.alt 14 (.take 18 (.take 19 (.take 20 (.take 21 (.alt 22 .fin .fin))))) .fin))) (.alt 14 (.take 18 (.alt 4 (.take 6 (.take 10 (.take 19 (.take 20 (.take 21 (.alt 22 .fin .fin)))))) .fin)) .fin)))))))))))))))) (by kernel_rfl) ?_
      rintro w1 rfl
      replace hS := hS.drew
      (conv => whnf)
      refine slcTo (b := s.length) Tryz.underlying9 (by omega) (by omega) rfl ?_
      (conv => whnf)
      refine RngC.mk (by omega) (by omega) ?_
      (conv => whnf)
      refine And.intro ?_ ?_
      · (conv => whnf)
        refine hS.ld 0 rfl rfl ?_
        refine KeepC.mk (Ext.refl _ _) ?_
        (conv => whnf)
        refine slcTo (b := p) Tryz.underlying9 rfl (by omega) rfl ?_
        (conv => whnf)
        refine addS (by simp; omega) ?_
        (conv => whnf)
        refine hS.ld 0 rfl rfl ?_
        refine KeepC.mk (Ext.refl _ _) ?_
        (conv => whnf)
        refine slcFrom (b := p + s.length) Tryz.underlying9 (by omega) (by omega) rfl ?_
        (conv => whnf)
        refine addS (by simp; omega) ?_
        (conv => whnf)
        refine hS.stX 0 rfl (Nat.le_of_ble_eq_true rfl) rfl (fun w' hx' hS => ?_)
        refine KeepC.mk hx' ?_
        clear hx'
        replace hS : St w (· = b) w' [blk b 171 [.string (bs (D.take p ++ s.take s.length ++ D.drop (p + s.length))), .bool false, .int .i64 lf, .bool false]] := hS
        rw [hlaid] at hS
        (conv => whnf)
        refine hS.ld 0 rfl rfl ?_
        (conv => whnf)
        refine RngC.mk (by omega) (by omega) ?_
        (conv => whnf)
        refine hS.st 0 rfl (Nat.le_of_ble_eq_true rfl) rfl (fun w' hS => ?_)
        (conv => whnf)
        refine hS.ld 0 rfl rfl ?_
        repeat' ((conv => whnf); first | refine RetC.mk ?_ | refine NzC.mk (by decide) ?_ | refine RngC.mk (by omega) (by omega) ?_ | refine IdxC.mk (by omega) (by omega) ?_ | refine brD (fun _ => ?_) (fun _ => ?_) | refine brND (fun _ => ?_) (fun _ => ?_) | refine brN (fun _ => ?_) (fun _ => ?_) | refine brI (fun _ => ?_) (fun _ => ?_))
        exact ⟨rfl, hS.ext, hS.blk 0 rfl⟩
      · (conv => whnf)
        refine hS.ld 0 rfl rfl ?_
        refine KeepC.mk (Ext.refl _ _) ?_
        (conv => whnf)
        refine slcFrom (b := p + s.length) Tryz.underlying9 (by omega) (by omega) rfl ?_
        (conv => whnf)
        refine hS.ld 0 rfl rfl ?_
        refine KeepC.mk (Ext.refl _ _) ?_
        (conv => whnf)
        refine slcTo (b := p) Tryz.underlying9 rfl (by omega) rfl ?_
        (conv => whnf)
        refine addS (by simp; omega) ?_
        (conv => whnf)
        refine addS (by simp; omega) ?_
        (conv => whnf)
        refine hS.stX 0 rfl (Nat.le_of_ble_eq_true rfl) rfl (fun w' hx' hS => ?_)
        refine KeepC.mk hx' ?_
        clear hx'
        replace hS : St w (· = b) w' [blk b 171 [.string (bs (D.take p ++ s.take s.length ++ D.drop (p + s.length))), .bool false, .int .i64 lf, .bool false]] := hS
        rw [hlaid] at hS
        (conv => whnf)
        refine hS.ld 0 rfl rfl ?_
        (conv => whnf)
        refine RngC.mk (by omega) (by omega) ?_
        (conv => whnf)
        refine hS.st 0 rfl (Nat.le_of_ble_eq_true rfl) rfl (fun w' hS => ?_)
        (conv => whnf)
        refine hS.ld 0 rfl rfl ?_
        repeat' ((conv => whnf); first | refine RetC.mk ?_ | refine NzC.mk (by decide) ?_ | refine RngC.mk (by omega) (by omega) ?_ | refine IdxC.mk (by omega) (by omega) ?_ | refine brD (fun _ => ?_) (fun _ => ?_) | refine brND (fun _ => ?_) (fun _ => ?_) | refine brN (fun _ => ?_) (fun _ => ?_) | refine brI (fun _ => ?_) (fun _ => ?_))
        exact ⟨rfl, hS.ext, hS.blk 0 rfl⟩
    · have hb0 := hbd rfl
      (conv => whnf)
      refine hS.ld 0 rfl rfl ?_
      (conv => whnf)
      refine brD (fun h1 => ?_) (fun h1 => ?_)
      · have hc : true = true ∧ lf < (s.length : Int) := ⟨rfl, h1⟩
        rw [if_pos hc, if_pos hc]
        obtain ⟨m, rfl⟩ : ∃ m : Nat, lf = m := ⟨lf.toNat, by omega⟩
        simp only [Int.toNat_natCast]
        (conv => whnf)
        refine hS.ld 0 rfl rfl ?_
        (conv => whnf)
        refine hS.st 0 rfl (Nat.le_of_ble_eq_true rfl) rfl (fun w' hS => ?_)
        (conv => whnf)
        have hlaid : D.take p ++ s.take m ++ D.drop (p + m) = laid D p (s.take m) := by
          unfold laid
          rw [List.length_take, Nat.min_eq_left (by omega)]
        refine drawT tabOk mixed [4, 14] (fun q => q = b) (.take 0 (.take 1 (.take 2 (.take 3 (.take 5 (.take 7 (.take 8 (.take 9 (.take 11 (.take 12 (.take 13 (.take 15 (.take 16 (.take 17 (.alt 4 (.take 6 (.take 10 (.alt 14 (.take 18 (.take 19 (.take 20 (.take 21 (.alt 22 .fin .fin))))) .fin))) (.alt 14 (.take 18 (.alt 4 (.take 6 (.take 10 (.take 19 (.take 20 (.take 21 (.alt 22 .fin .fin)))))) .fin)) .fin)))))))))))))))) (by kernel_rfl) ?_
        rintro w1 rfl
        replace hS := hS.drew
        (conv => whnf)
        refine slcTo (b := m) Tryz.underlying9 (by omega) (by omega) rfl ?_
        (conv => whnf)
        refine RngC.mk (by omega) (by omega) ?_
        (conv => whnf)
        refine And.intro ?_ ?_
        · (conv => whnf)
          refine hS.ld 0 rfl rfl ?_
          refine KeepC.mk (Ext.refl _ _) ?_
          (conv => whnf)
          refine slcTo (b := p) Tryz.underlying9 rfl (by omega) rfl ?_
          (conv => whnf)
          refine addS (by simp; omega) ?_
          (conv => whnf)
          refine hS.ld 0 rfl rfl ?_
          refine KeepC.mk (Ext.refl _ _) ?_
          (conv => whnf)
          refine slcFrom (b := p + m) Tryz.underlying9 (by omega) (by omega) rfl ?_
          (conv => whnf)
          refine addS (by simp; omega) ?_
          (conv => whnf)
          refine hS.stX 0 rfl (Nat.le_of_ble_eq_true rfl) rfl (fun w' hx' hS => ?_)
          refine KeepC.mk hx' ?_
          clear hx'
          replace hS : St w (· = b) w' [blk b 171 [.string (bs (D.take p ++ s.take m ++ D.drop (p + m))), .bool true, .int .i64 (m : Int), .bool true]] := hS
          rw [hlaid] at hS
          (conv => whnf)
          refine hS.ld 0 rfl rfl ?_
          (conv => whnf)
          refine RngC.mk (by omega) (by omega) ?_
          (conv => whnf)
          refine hS.st 0 rfl (Nat.le_of_ble_eq_true rfl) rfl (fun w' hS => ?_)
          (conv => whnf)
          refine hS.ld 0 rfl rfl ?_
          repeat' ((conv => whnf); first | refine RetC.mk ?_ | refine NzC.mk (by decide) ?_ | refine RngC.mk (by omega) (by omega) ?_ | refine IdxC.mk (by omega) (by omega) ?_ | refine brD (fun _ => ?_) (fun _ => ?_) | refine brND (fun _ => ?_) (fun _ => ?_) | refine brN (fun _ => ?_) (fun _ => ?_) | refine brI (fun _ => ?_) (fun _ => ?_))
          exact ⟨rfl, hS.ext, hS.blk 0 rfl⟩
        · (conv => whnf)
          refine hS.ld 0 rfl rfl ?_
          refine KeepC.mk (Ext.refl _ _) ?_
          (conv => whnf)
          refine slcFrom (b := p + m) Tryz.underlying9 (by omega) (by omega) rfl ?_
          (conv => whnf)
          refine hS.ld 0 rfl rfl ?_
          refine KeepC.mk (Ext.refl _ _) ?_
          (conv => whnf)
          refine slcTo (b := p) Tryz.underlying9 rfl (by omega) rfl ?_
          (conv => whnf)
          refine addS (by simp; omega) ?_
          (conv => whnf)
          refine addS (by simp; omega) ?_
          (conv => whnf)
          refine hS.stX 0 rfl (Nat.le_of_ble_eq_true rfl) rfl (fun w' hx' hS => ?_)
          refine KeepC.mk hx' ?_
          clear hx'
          replace hS : St w (· = b) w' [blk b 171 [.string (bs (D.take p ++ s.take m ++ D.drop (p + m))), .bool true, .int .i64 (m : Int), .bool true]] := hS
          rw [hlaid] at hS
          (conv => whnf)
          refine hS.ld 0 rfl rfl ?_
          (conv => whnf)
          refine RngC.mk (by omega) (by omega) ?_
          (conv => whnf)
          refine hS.st 0 rfl (Nat.le_of_ble_eq_true rfl) rfl (fun w' hS => ?_)
          (conv => whnf)
          refine hS.ld 0 rfl rfl ?_
          repeat' ((conv => whnf); first | refine RetC.mk ?_ | refine NzC.mk (by decide) ?_ | refine RngC.mk (by omega) (by omega) ?_ | refine IdxC.mk (by omega) (by omega) ?_ | refine brD (fun _ => ?_) (fun _ => ?_) | refine brND (fun _ => ?_) (fun _ => ?_) | refine brN (fun _ => ?_) (fun _ => ?_) | refine brI (fun _ => ?_) (fun _ => ?_))
          exact ⟨rfl, hS.ext, hS.blk 0 rfl⟩
      · have hc : ¬ (true = true ∧ lf < (s.length : Int)) := fun h => h1 h.2
        rw [if_neg hc, if_neg hc]
        (conv => whnf)
        have hlaid : D.take p ++ s.take s.length ++ D.drop (p + s.length) = laid D p (s.take s.length) := by
          unfold laid
          rw [List.length_take, Nat.min_eq_left (by omega)]
        refine drawT tabOk mixed [4, 14] (fun q => q = b) (.take 0 (.take 1 (.take 2 (.take 3 (.take 5 (.take 7 (.take 8 (.take 9 (.take 11 (.take 12 (.take 13 (.take 15 (.take 16 (.take 17 (.alt 4 (.take 6 (.take 10 (.alt 14 (.take 18 (.take 19 (.take 20 (.take 21 (.alt 22 .fin .fin))))) .fin))) (.alt 14 (.take 18 (.alt 4 (.take 6 (.take 10 (.take 19 (.take 20 (.take 21 (.alt 22 .fin .fin)))))) .fin)) .fin)))))))))))))))) (by kernel_rfl) ?_
        rintro w1 rfl
        replace hS := hS.drew
        (conv => whnf)
        refine slcTo (b := s.length) Tryz.underlying9 (by omega) (by omega) rfl ?_
        (conv => whnf)
        refine RngC.mk (by omega) (by omega) ?_
        (conv => whnf)
        refine And.intro ?_ ?_
        · (conv => whnf)
          refine hS.ld 0 rfl rfl ?_
          refine KeepC.mk (Ext.refl _ _) ?_
          (conv => whnf)
          refine slcTo (b := p) Tryz.underlying9 rfl (by omega) rfl ?_
          (conv => whnf)
          refine addS (by simp; omega) ?_
          (conv => whnf)
          refine hS.ld 0 rfl rfl ?_
          refine KeepC.mk (Ext.refl _ _) ?_
          (conv => whnf)
          refine slcFrom (b := p + s.length) Tryz.underlying9 (by omega) (by omega) rfl ?_
          (conv => whnf)
          refine addS (by simp; omega) ?_
          (conv => whnf)
          refine hS.stX 0 rfl (Nat.le_of_ble_eq_true rfl) rfl (fun w' hx' hS => ?_)
          refine KeepC.mk hx' ?_
          clear hx'
          replace hS : St w (· = b) w' [blk b 171 [.string (bs (D.take p ++ s.take s.length ++ D.drop (p + s.length))), .bool false, .int .i64 lf, .bool true]] := hS
          rw [hlaid] at hS
          (conv => whnf)
          refine hS.ld 0 rfl rfl ?_
          (conv => whnf)
          refine RngC.mk (by omega) (by omega) ?_
          (conv => whnf)
          refine hS.st 0 rfl (Nat.le_of_ble_eq_true rfl) rfl (fun w' hS => ?_)
          (conv => whnf)
          refine hS.ld 0 rfl rfl ?_
          repeat' ((conv => whnf); first | refine RetC.mk ?_ | refine NzC.mk (by decide) ?_ | refine RngC.mk (by omega) (by omega) ?_ | refine IdxC.mk (by omega) (by omega) ?_ | refine brD (fun _ => ?_) (fun _ => ?_) | refine brND (fun _ => ?_) (fun _ => ?_) | refine brN (fun _ => ?_) (fun _ => ?_) | refine brI (fun _ => ?_) (fun _ => ?_))
          exact ⟨rfl, hS.ext, hS.blk 0 rfl⟩
        · (conv => whnf)
          refine hS.ld 0 rfl rfl ?_
          refine KeepC.mk (Ext.refl _ _) ?_
          (conv => whnf)
          refine slcFrom (b := p + s.length) Tryz.underlying9 (by omega) (by omega) rfl ?_
          (conv => whnf)
          refine hS.ld 0 rfl rfl ?_
          refine KeepC.mk (Ext.refl _ _) ?_
          (conv => whnf)
          refine slcTo (b := p) Tryz.underlying9 rfl (by omega) rfl ?_
          (conv => whnf)
          refine addS (by simp; omega) ?_
          (conv => whnf)
          refine addS (by simp; omega) ?_
          (conv => whnf)
          refine hS.stX 0 rfl (Nat.le_of_ble_eq_true rfl) rfl (fun w' hx' hS => ?_)
          refine KeepC.mk hx' ?_
          clear hx'
          replace hS : St w (· = b) w' [blk b 171 [.string (bs (D.take p ++ s.take s.length ++ D.drop (p + s.length))), .bool false, .int .i64 lf, .bool true]] := hS
          rw [hlaid] at hS
          (conv => whnf)
          refine hS.ld 0 rfl rfl ?_
          (conv => whnf)
          refine RngC.mk (by omega) (by omega) ?_
          (conv => whnf)
          refine hS.st 0 rfl (Nat.le_of_ble_eq_true rfl) rfl (fun w' hS => ?_)
          (conv => whnf)
          refine hS.ld 0 rfl rfl ?_
          repeat' ((conv => whnf); first | refine RetC.mk ?_ | refine NzC.mk (by decide) ?_ | refine RngC.mk (by omega) (by omega) ?_ | refine IdxC.mk (by omega) (by omega) ?_ | refine brD (fun _ => ?_) (fun _ => ?_) | refine brND (fun _ => ?_) (fun _ => ?_) | refine brN (fun _ => ?_) (fun _ => ?_) | refine brI (fun _ => ?_) (fun _ => ?_))
          exact ⟨rfl, hS.ext, hS.blk 0 rfl⟩
  · rw [if_pos rfl, if_pos rfl]
    (conv => whnf)
    have hlaid : D.take p ++ s.take 0 ++ D.drop (p + 0) = laid D p (s.take 0) := by
      unfold laid
      rw [List.length_take, Nat.min_eq_left (by omega)]
    refine drawT tabOk mixed [4, 14] (fun q => q = b) (.take 0 (.take 1 (.take 2 (.take 3 (.take 5 (.take 7 (.take 8 (.take 9 (.take 11 (.take 12 (.take 13 (.take 15 (.take 16 (.take 17 (.alt 4 (.take 6 (.take 10 (.alt 14 (.take 18 (.take 19 (.take 20 (.take 21 (.alt 22 .fin .fin))))) .fin))) (.alt 14 (.take 18 (.alt 4 (.take 6 (.take 10 (.take 19 (.take 20 (.take 21 (.alt 22 .fin .fin)))))) .fin)) .fin)))))))))))))))) (by kernel_rfl) ?_
    rintro w1 rfl
    replace hS := hS.drew
    (conv => whnf)
    refine slcTo (b := 0) Tryz.underlying9 (by omega) (by omega) rfl ?_
    (conv => whnf)
    refine RngC.mk (by omega) (by omega) ?_
    (conv => whnf)
    refine And.intro ?_ ?_
    · (conv => whnf)
      refine hS.ld 0 rfl rfl ?_
      refine KeepC.mk (Ext.refl _ _) ?_
      (conv => whnf)
      refine slcTo (b := p) Tryz.underlying9 rfl (by omega) rfl ?_
      (conv => whnf)
      refine addS (by simp; omega) ?_
      (conv => whnf)
      refine hS.ld 0 rfl rfl ?_
      refine KeepC.mk (Ext.refl _ _) ?_
      (conv => whnf)
      refine slcFrom (b := p + 0) Tryz.underlying9 (by omega) (by omega) rfl ?_
      (conv => whnf)
      refine addS (by simp; omega) ?_
      (conv => whnf)
      refine hS.stX 0 rfl (Nat.le_of_ble_eq_true rfl) rfl (fun w' hx' hS => ?_)
      refine KeepC.mk hx' ?_
      clear hx'
      replace hS : St w (· = b) w' [blk b 171 [.string (bs (D.take p ++ s.take 0 ++ D.drop (p + 0))), .bool true, .int .i64 lf, .bool bd]] := hS
      rw [hlaid] at hS
      (conv => whnf)
      refine hS.ld 0 rfl rfl ?_
      (conv => whnf)
      refine RngC.mk (by omega) (by omega) ?_
      (conv => whnf)
      refine hS.st 0 rfl (Nat.le_of_ble_eq_true rfl) rfl (fun w' hS => ?_)
      (conv => whnf)
      refine hS.ld 0 rfl rfl ?_
      repeat' ((conv => whnf); first | refine RetC.mk ?_ | refine NzC.mk (by decide) ?_ | refine RngC.mk (by omega) (by omega) ?_ | refine IdxC.mk (by omega) (by omega) ?_ | refine brD (fun _ => ?_) (fun _ => ?_) | refine brND (fun _ => ?_) (fun _ => ?_) | refine brN (fun _ => ?_) (fun _ => ?_) | refine brI (fun _ => ?_) (fun _ => ?_))
      exact ⟨rfl, hS.ext, hS.blk 0 rfl⟩
    · (conv => whnf)
      refine hS.ld 0 rfl rfl ?_
      refine KeepC.mk (Ext.refl _ _) ?_
      (conv => whnf)
      refine slcFrom (b := p + 0) Tryz.underlying9 (by omega) (by omega) rfl ?_
      (conv => whnf)
      refine hS.ld 0 rfl rfl ?_
      refine KeepC.mk (Ext.refl _ _) ?_
      (conv => whnf)
      refine slcTo (b := p) Tryz.underlying9 rfl (by omega) rfl ?_
      (conv => whnf)
      refine addS (by simp; omega) ?_
      (conv => whnf)
      refine addS (by simp; omega) ?_
      (conv => whnf)
      refine hS.stX 0 rfl (Nat.le_of_ble_eq_true rfl) rfl (fun w' hx' hS => ?_)
      refine KeepC.mk hx' ?_
      clear hx'
      replace hS : St w (· = b) w' [blk b 171 [.string (bs (D.take p ++ s.take 0 ++ D.drop (p + 0))), .bool true, .int .i64 lf, .bool bd]] := hS
      rw [hlaid] at hS
      (conv => whnf)
      refine hS.ld 0 rfl rfl ?_
      (conv => whnf)
      refine RngC.mk (by omega) (by omega) ?_
      (conv => whnf)
      refine hS.st 0 rfl (Nat.le_of_ble_eq_true rfl) rfl (fun w' hS => ?_)
      (conv => whnf)
      refine hS.ld 0 rfl rfl ?_
      repeat' ((conv => whnf); first | refine RetC.mk ?_ | refine NzC.mk (by decide) ?_ | refine RngC.mk (by omega) (by omega) ?_ | refine IdxC.mk (by omega) (by omega) ?_ | refine brD (fun _ => ?_) (fun _ => ?_) | refine brND (fun _ => ?_) (fun _ => ?_) | refine brN (fun _ => ?_) (fun _ => ?_) | refine brI (fun _ => ?_) (fun _ => ?_))
      exact ⟨rfl, hS.ext, hS.blk 0 rfl⟩
end
end Go.Proofs.YtoaghhcjlfiflaaGreatDoor

/-
  The reference opens a cell, walked: it finds what Open finds.
-/
namespace Go.Proofs.YtoaghhcjlfiflaaGreatDoor
open Go Ev

theorem openN_par (d : List UInt8) {k : Nat} (hk : k < 2) (h : recN d k % 2 = k) (h1 : 1 ≤ recN d k) : (openN d k).num ≠ recN d k := by
  have : k = 0 ∨ k = 1 := by omega
  rcases this with rfl | rfl
  · simp [openN]
    omega
  · by_cases hf : fullK d 0 ∧ recN d 0 > (openN d 0).num
    · rw [show openN d 1 = ⟨recN d 0, recE d 0, recL d 0, false⟩ from if_pos hf]
      have := hf.1.2.1
      dsimp only
      omega
    · rw [show openN d 1 = ⟨0, 0, 0, false⟩ from if_neg hf]
      dsimp only
      omega
section
variable {w : World} {b c : Nat} {R : RBy}
theorem ropen_ok (hB : Blk w b 171 (encRB R)) (hl : R.data.length = 64) : CallC Tryz.prog 108 #[.pointer (some ⟨b, 0, none⟩)] w fun v w' => ∃ c, v = .pointer (some ⟨c, 0, none⟩) ∧ w.heap.size ≤ c ∧ Ext No w w' ∧ Blk w' c 175 (encCl b (openS R.data)) := by
  refine fn_intro tabOk Tryz.func108 (by kernel_rfl) rfl Tryz.ntmps108 (Nat.le_of_ble_eq_true rfl) ?_
  have hS := St.start w No
  (conv => whnf)
  refine hS.new (fun c w' hc hS => ?_)
  (conv => whnf)
  refine loopR tabOk (fun σ w' q => ∃ k : Nat, σ = [(4, .int .i64 k), (3, .pointer (some ⟨c, 0, none⟩)), (0, .pointer (some ⟨b, 0, none⟩))] ∧ q = 2 - k ∧ k ≤ 2 ∧ St w No w' [blk c 175 (encCl b (openN R.data k))])
    (σ' := [(4, .int .i64 ((0 : Nat) : Int)), (3, .pointer (some ⟨c, 0, none⟩)), (0, .pointer (some ⟨b, 0, none⟩))]) (n := 2) ⟨rfl, rfl, rfl, trivial⟩ ⟨0, rfl, rfl, Nat.zero_le _, hS⟩ ?_
  clear hS
  rintro _ w1 q ⟨k, rfl, rfl, hk, hS⟩
  (conv => whnf)
  refine brD (fun h3 => ?_) (fun h3 => ?_)
  · have hk2 : k < 2 := by omega
    have hrl := recK_len hl hk2
    have n1 := recN_lt R.data k
    have n2 := recE_lt R.data k
    have n3 := recL_lt R.data k
    have hst : openN R.data (k + 1) = openK R.data k (openN R.data k) := rfl
    have hpar := openN_par R.data hk2
    (conv => whnf)
    refine hS.ldr (hB.cell 0) id ?_
    (conv => whnf)
    refine RngC.mk (by omega) (by omega) ?_
    (conv => whnf)
    refine RngC.mk (by omega) (by omega) ?_
    (conv => whnf)
    refine RngC.mk (by omega) (by omega) ?_
    (conv => whnf)
    refine slcS (a := k * 20) (b := k * 20 + 17) (r := recK R.data k) Tryz.underlying9 (by omega) (by omega) (by omega) (by omega) (by unfold recK; congr 1; omega) ?_
    (conv => whnf)
    refine slcTo (b := 4) Tryz.underlying9 rfl (by omega) rfl ?_
    (conv => whnf)
    refine (rvalue_ok ((recK R.data k).take 4) (by rw [List.length_take]; omega) _).mono ?_
    rintro v w2 ⟨rfl, hx1⟩
    replace hS := hS.no hx1
    clear hx1
    rw [show valB ((recK R.data k).take 4) = recN R.data k from rfl]
    have hmod : (recN R.data k : Int).tmod 2 = ((recN R.data k % 2 : Nat) : Int) := by rw [Int.tmod_eq_emod_of_nonneg (by omega)]; omega
    have hf : fullK R.data k ↔ (1 ≤ recN R.data k ∧ recN R.data k % 2 = k ∧ bodyB (recN R.data k) (recE R.data k) (recL R.data k) ++ [165] = recK R.data k) := Iff.rfl
    have hok : openK R.data k (openN R.data k) = if fullK R.data k ∧ recN R.data k > (openN R.data k).num then ⟨recN R.data k, recE R.data k, recL R.data k, (openN R.data k).dead⟩ else openN R.data k := rfl
    (conv => whnf)
    refine brD (fun h4 => ?_) (fun h4 => ?_)
    · skip
      rw [hok, if_neg (fun h => by have := (hf.1 h.1).1; omega)] at hst
      (conv => whnf)
      refine RngC.mk (by omega) (by omega) ?_
      (conv => whnf)
      refine LoopE.mk ⟨_, [(4, .int .i64 ((k + 1 : Nat) : Int)), (3, _), (0, _)], ?_, ⟨rfl, rfl, rfl, trivial⟩, ⟨k + 1, rfl, rfl, by omega, by rw [hst]; exact hS⟩⟩
      omega
    (conv => whnf)
    refine NzC.mk (by decide) ?_
    rw [hmod]
    (conv => whnf)
    refine brND (fun h5 => ?_) (fun h5 => ?_)
    · skip
      rw [hok, if_neg (fun h => h5 (by have := (hf.1 h.1).2.1; omega))] at hst
      (conv => whnf)
      refine RngC.mk (by omega) (by omega) ?_
      (conv => whnf)
      refine LoopE.mk ⟨_, [(4, .int .i64 ((k + 1 : Nat) : Int)), (3, _), (0, _)], ?_, ⟨rfl, rfl, rfl, trivial⟩, ⟨k + 1, rfl, rfl, by omega, by rw [hst]; exact hS⟩⟩
      omega
    (conv => whnf)
    refine hS.ld 0 rfl rfl ?_
    (conv => whnf)
    refine brD (fun h6 => ?_) (fun h6 => ?_)
    · skip
      rw [hok, if_neg (fun h => by have := h.2; omega)] at hst
      (conv => whnf)
      refine RngC.mk (by omega) (by omega) ?_
      (conv => whnf)
      refine LoopE.mk ⟨_, [(4, .int .i64 ((k + 1 : Nat) : Int)), (3, _), (0, _)], ?_, ⟨rfl, rfl, rfl, trivial⟩, ⟨k + 1, rfl, rfl, by omega, by rw [hst]; exact hS⟩⟩
      omega
    have hgt : recN R.data k > (openN R.data k).num := by
      have := hpar (by omega) (by omega)
      omega
    (conv => whnf)
    (refine drawS tabOk mixed [] (No) [0, 1, 2, 4, 5, 10, 3, 6, 7, 8, 9, 11] (by kernel_rfl) ?_; rintro w1 rfl; replace hS := hS.drew)
    (conv => whnf)
    refine slcS (a := 4) (b := 8) Tryz.underlying9 rfl rfl (by omega) (by omega) rfl ?_
    (conv => whnf)
    refine slcS (a := 8) (b := 12) Tryz.underlying9 rfl rfl (by omega) (by omega) rfl ?_
    (conv => whnf)
    refine (rvalue_ok (((recK R.data k).drop 4).take (8 - 4)) (by rw [List.length_take]; omega) _).mono ?_
    rintro v w3 ⟨rfl, hx2⟩
    replace hS := hS.no hx2
    refine KeepC.mk hx2 ?_
    (conv => whnf)
    refine (rvalue_ok (((recK R.data k).drop 8).take (12 - 8)) (by rw [List.length_take]; omega) _).mono ?_
    rintro v w4 ⟨rfl, hx3⟩
    replace hS := hS.no hx3
    refine KeepC.mk (hx2.trans hx3) ?_
    rw [show valB (((recK R.data k).drop 4).take (8 - 4)) = recE R.data k from rfl, show valB (((recK R.data k).drop 8).take (12 - 8)) = recL R.data k from rfl]
    (conv => whnf)
    refine (rbody_ok (recN R.data k) (recE R.data k) (recL R.data k) (by omega) (by omega) (by omega) _).mono ?_
    rintro v w5 ⟨rfl, hx4⟩
    replace hS := hS.no hx4
    refine KeepC.mk ((hx2.trans hx3).trans hx4) ?_
    (conv => whnf)
    refine (rbyte_ok 165 (by omega) _).mono ?_
    rintro v w6 ⟨rfl, hx5⟩
    replace hS := hS.no hx5
    refine KeepC.mk (((hx2.trans hx3).trans hx4).trans hx5) ?_
    clear hx2 hx3 hx4 hx5
    (conv => whnf)
    refine addS (by rw [bodyB_len]; simp) ?_
    (conv => whnf)
    refine eqS2 ?_
    (conv => whnf)
    refine brD (fun h7 => ?_) (fun h7 => ?_)
    · rw [hok, if_pos ⟨hf.2 ⟨by omega, by omega, h7⟩, hgt⟩] at hst
      (conv => whnf)
      refine hS.st 0 rfl (Nat.le_of_ble_eq_true rfl) rfl (fun w' hS => ?_)
      (conv => whnf)
      refine slcS (a := 4) (b := 8) Tryz.underlying9 rfl rfl (by omega) (by omega) rfl ?_
      (conv => whnf)
      refine (rvalue_ok (((recK R.data k).drop 4).take (8 - 4)) (by rw [List.length_take]; omega) _).mono ?_
      rintro v w7 ⟨rfl, hx2⟩
      replace hS := hS.no hx2
      clear hx2
      rw [show valB (((recK R.data k).drop 4).take (8 - 4)) = recE R.data k from rfl]
      (conv => whnf)
      refine hS.st 0 rfl (Nat.le_of_ble_eq_true rfl) rfl (fun w' hS => ?_)
      (conv => whnf)
      refine slcS (a := 8) (b := 12) Tryz.underlying9 rfl rfl (by omega) (by omega) rfl ?_
      (conv => whnf)
      refine (rvalue_ok (((recK R.data k).drop 8).take (12 - 8)) (by rw [List.length_take]; omega) _).mono ?_
      rintro v w8 ⟨rfl, hx3⟩
      replace hS := hS.no hx3
      clear hx3
      rw [show valB (((recK R.data k).drop 8).take (12 - 8)) = recL R.data k from rfl]
      (conv => whnf)
      refine hS.st 0 rfl (Nat.le_of_ble_eq_true rfl) rfl (fun w' hS => ?_)
      replace hS : St w No w' [blk c 175 (encCl b ⟨recN R.data k, recE R.data k, recL R.data k, (openN R.data k).dead⟩)] := hS
      rw [← hst] at hS
      (conv => whnf)
      refine RngC.mk (by omega) (by omega) ?_
      (conv => whnf)
      refine LoopE.mk ⟨_, [(4, .int .i64 ((k + 1 : Nat) : Int)), (3, _), (0, _)], ?_, ⟨rfl, rfl, rfl, trivial⟩, ⟨k + 1, rfl, rfl, by omega, hS⟩⟩
      omega
    · skip
      rw [hok, if_neg (fun h => h7 (hf.1 h.1).2.2)] at hst
      (conv => whnf)
      refine RngC.mk (by omega) (by omega) ?_
      (conv => whnf)
      refine LoopE.mk ⟨_, [(4, .int .i64 ((k + 1 : Nat) : Int)), (3, _), (0, _)], ?_, ⟨rfl, rfl, rfl, trivial⟩, ⟨k + 1, rfl, rfl, by omega, by rw [hst]; exact hS⟩⟩
      omega
  · obtain rfl : k = 2 := by omega
    repeat' ((conv => whnf); first | refine RetC.mk ?_ | refine NzC.mk (by decide) ?_ | refine RngC.mk (by omega) (by omega) ?_ | refine IdxC.mk (by omega) (by omega) ?_ | refine brD (fun _ => ?_) (fun _ => ?_) | refine brND (fun _ => ?_) (fun _ => ?_) | refine brN (fun _ => ?_) (fun _ => ?_) | refine brI (fun _ => ?_) (fun _ => ?_))
    exact ⟨c, rfl, hc, hS.ext, hS.blk 0 rfl⟩
end
end Go.Proofs.YtoaghhcjlfiflaaGreatDoor
