/-
  Texts of this claim, joined: PolicyTexts.
-/
import Derived.Test.YtcioicoedmmkhaaGreatDoorPolicyTextsD

namespace Go.Proofs.YtcioicoedmmkhaaGreatDoor
open Go Ev
theorem policyTexts_ok {E : Nat → Addr} (W : World) (hE : Errs W E W.heap.size allErrs) (hh : Handle W) (ht : Pow10 W) (hP : Protos W) (hM : MaxL W) (hV : NumV W) (a0 : Option Addr) (n0 c0 : Nat) (l : List RuleS) (hx : Slc W 5 encRule RuleS.I a0 n0 l) :
    CallC Tryz.prog 5 #[.slice a0 n0 c0] W fun v w' => v = .bool true ∧ Ext No W w' := by
  have hl := hx.len
  have hgood := @fault_good l
  refine fn_intro tabOk Tryz.func5 (by kernel_rfl) rfl Tryz.ntmps5 (Nat.le_of_ble_eq_true rfl) ?_
  have hS := St.start W No
  (conv => whnf)
  refine (ruled_ok _ ((hE.sub rfl).ext hS.ext fun _ h => h.elim) (ht.no hS.ext) (hP.no hS.ext)).mono ?_
  rintro v w1 ⟨rfl, hx0⟩
  replace hS := hS.no hx0
  (conv => whnf)
  refine brD (fun h1 => ?_) (fun h1 => ?_)
  · repeat' ((conv => whnf); first | refine RetC.mk ?_ | refine NzC.mk (by decide) ?_ | refine RngC.mk (by omega) (by omega) ?_ | refine IdxC.mk (by omega) (by omega) ?_ | refine brD (fun _ => ?_) (fun _ => ?_) | refine brND (fun _ => ?_) (fun _ => ?_) | refine brN (fun _ => ?_) (fun _ => ?_) | refine brI (fun _ => ?_) (fun _ => ?_))
    exact ⟨rfl, hS.ext⟩
  (conv => whnf)
  refine (ownRules_ok (hx.no hx0) (by omega)).mono ?_
  rintro v w2 ⟨aa, cc, rfl, hx1, ho, _⟩
  have hz := ownL_slc (G := fun _ => True) codRule ho fun _ _ => trivial
  replace hx0 := hx0.trans hx1
  clear ho hx1 hS
  (conv => whnf)
  refine (ptext_ok hz (ht.no hx0) (hP.no hx0) ((hE.sub rfl).ext hx0 fun _ h => h.elim)).mono ?_
  rintro v w3 ⟨⟨e, rfl, hf⟩, hx1⟩
  replace hx0 := hx0.trans hx1
  clear hx1 hz
  (conv => whnf)
  refine (rulesFault_ok (hx.no hx0)).mono ?_
  rintro v w4 ⟨rfl, hx1⟩
  replace hf := hf.no hx1
  replace hx0 := hx0.trans hx1
  clear hx1
  have hS := St.start w4 No
  obtain ⟨g1, g2⟩ := fault_small l
  generalize faultL l = F at hf g1 g2 hgood ⊢
  obtain ⟨fc, fa⟩ := F
  dsimp only at hf g1 g2 hgood ⊢
  (conv => whnf)
  refine hS.new (fun b7 w' hb7 hS => ?_)
  (conv => whnf)
  refine hS.st 0 rfl (Nat.le_of_ble_eq_true rfl) rfl (fun w' hS => ?_)
  replace hS : St w4 No w' [blk b7 47 (encF fc fa)] := hS
  (conv => whnf)
  refine hS.ld 0 rfl rfl ?_
  by_cases hfc : fc = 0
  case neg =>
    rw [if_neg (fun h => hfc (hgood.2 h))]
    (conv => whnf)
    refine brD (fun h2 => ?_) (fun h2 => absurd (show (fc : Int) > 0 by omega) h2)
    (conv => whnf)
    refine hS.laX 0 rfl rfl ?_
    (conv => whnf)
    refine (faulted1_ok (hf.no hS.ext) g2 g1 ((hE.ext hx0 fun _ h => h.elim).ext hS.ext fun _ h => h.elim) ((hh.ext hx0).ext hS.ext)).mono ?_
    rintro v w5 ⟨rfl, hx1⟩
    replace hS := hS.no hx1
    (conv => whnf)
    refine eqS2 ?_
    repeat' ((conv => whnf); first | refine RetC.mk ?_ | refine NzC.mk (by decide) ?_ | refine RngC.mk (by omega) (by omega) ?_ | refine IdxC.mk (by omega) (by omega) ?_ | refine brD (fun _ => ?_) (fun _ => ?_) | refine brND (fun _ => ?_) (fun _ => ?_) | refine brN (fun _ => ?_) (fun _ => ?_) | refine brI (fun _ => ?_) (fun _ => ?_))
    exact ⟨rfl, hx0.trans hS.ext⟩
  subst hfc
  have hg := hgood.1 rfl
  rw [if_pos hg]
  obtain rfl : e = .nilIface := by
    rcases hf with ⟨_, h⟩ | ⟨_, h, _⟩
    · exact h
    · omega
  have hlen := lines_len (l := l) fun r hr => (numR_of (hg.2 r hr)).1
  have hl20 := hg.1
  clear hf
  (conv => whnf)
  have hxa := hx0.trans hS.ext
  refine (preads_ok (linesB l) _ (by omega) (hM.no hxa) (hV.no hxa) (ht.no hxa) (hP.no hxa) ((hE.sub rfl).ext hxa fun _ h => h.elim)).mono ?_
  rintro v w5 ⟨⟨a, c, e, rfl, hf, ho, _⟩, hx1⟩
  rw [rulesOfS_lines hg] at ho hf ⊢
  dsimp only at ho hf ⊢
  obtain rfl : e = .nilIface := by
    rcases hf with ⟨_, h⟩ | ⟨_, h, _⟩
    · exact h
    · omega
  have hz := ownL_slc (G := fun _ => True) codRule ho fun _ _ => trivial
  replace hx0 := hxa.trans hx1
  clear ho hx1 hS hxa hf
  (conv => whnf)
  refine (rulesText_ok (hx.no hx0) hg).mono ?_
  rintro v w6 ⟨rfl, hx1⟩
  replace hz := hz.no hx1
  replace hx0 := hx0.trans hx1
  clear hx1
  (conv => whnf)
  refine eqS2 ?_
  (conv => whnf)
  refine brD (fun _ => ?_) (fun h => absurd rfl h)
  (conv => whnf)
  refine (sameRules_ok hz (hx.no hx0)).mono ?_
  rintro v w7 ⟨rfl, hx1⟩
  replace hx0 := hx0.trans hx1
  repeat' ((conv => whnf); first | refine RetC.mk ?_ | refine NzC.mk (by decide) ?_ | refine RngC.mk (by omega) (by omega) ?_ | refine IdxC.mk (by omega) (by omega) ?_ | refine brD (fun _ => ?_) (fun _ => ?_) | refine brND (fun _ => ?_) (fun _ => ?_) | refine brN (fun _ => ?_) (fun _ => ?_) | refine brI (fun _ => ?_) (fun _ => ?_))
  exact ⟨by simp, hx0⟩
theorem policyTexts_walk {E : Nat → Addr} (W : World) (args : List Value) (hE : Errs W E W.heap.size allErrs) (hh : Handle W) (ht : Pow10 W) (hP : Protos W) (hM : MaxL W) (hV : NumV W) (ha : ArgsOk Tryz.prog W [43] args) :
    CallC Tryz.prog 5 args.toArray W fun v w' => v = .bool true ∧ Ext No W w' := by
  obtain ⟨v0, args, rfl, h0, ha⟩ := ha.cons
  obtain rfl := ha.nil
  obtain ⟨d, hd⟩ : ∃ d, 10 ≤ d := ⟨10, Nat.le_refl _⟩
  obtain ⟨a0, n0, c0, xs, rfl, hx, _⟩ := arg_slice (d := d) (sz := 5) Tryz.underlying43 (by kernel_rfl) (by decide) (dec_rule hd) h0
  exact policyTexts_ok W hE hh ht hP hM hV a0 n0 c0 xs hx
end Go.Proofs.YtcioicoedmmkhaaGreatDoor
