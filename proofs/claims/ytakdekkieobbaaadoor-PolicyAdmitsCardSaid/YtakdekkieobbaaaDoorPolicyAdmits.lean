
/-
  PolicyAdmits returns true whatever its arguments.
-/
import Derived.Test.YtakdekkieobbaaaDoorPolicyLaw
import Derived.Test.YtakdekkieobbaaaDoorFault
namespace Go.Proofs.YtakdekkieobbaaaDoor
open Go Ev

theorem faultL_small (l : List RuleS) : (faultL l).1 < 12 ∧ ((faultL l).1 = 0 → (faultL l).2 = -1) := by
  rcases fault_code l with ⟨h1, h2⟩ | ⟨h1, h2⟩ | ⟨h1, h2⟩ <;> omega
theorem policyAdmits_ok {E : Nat → Addr} (W : World) (hE : Errs W E W.heap.size allErrs) (hh : Handle W) (ht : Pow10 W) (hP : Protos W) (a0 : Option Addr) (n0 c0 : Nat) (l : List RuleS) (hx : Slc W 5 encRule RuleS.I a0 n0 l) (p : PktS) (out : Bool) (a1 : Option Addr) (n1 c1 : Nat) (m : List RuleS) (hy : Slc W 5 encRule RuleS.I a1 n1 m) :
    CallC Tryd.prog 5 #[.slice a0 n0 c0, .agg (encPkt p).toArray, .bool out, .slice a1 n1 c1] W fun v w' => v = .bool true ∧ Ext No W w' := by
  have hl := hx.len
  have hl1 := hy.len
  have hg := @fault_good l
  have hg1 := @fault_good m
  refine fn_intro tabOk Tryd.func5 (by kernel_rfl) rfl Tryd.ntmps5 (Nat.le_of_ble_eq_true rfl) ?_
  have hS := St.start W No
  (conv => whnf)
  refine hS.new (fun bp w' hbp hS => ?_)
  replace hS : St W No w' [blk bp 28 (encPkt p)] := hS
  repeat' ((conv => whnf); first | refine RetC.mk ?_ | refine NzC.mk (by decide) ?_ | refine RngC.mk (by omega) (by omega) ?_ | refine IdxC.mk (by omega) (by omega) ?_ | refine hS.ld 0 rfl rfl ?_ | refine hS.laX 0 rfl rfl ?_ | (refine (ruled_ok _ ((hE.sub rfl).ext hS.ext fun _ h => h.elim) (ht.no hS.ext) (hP.no hS.ext)).mono ?_; rintro v w' ⟨rfl, hx'⟩; replace hS := hS.no hx'; clear hx') | refine brD (fun _ => ?_) (fun _ => ?_) | refine brND (fun _ => ?_) (fun _ => ?_) | refine brN (fun _ => ?_) (fun _ => ?_) | refine brI (fun _ => ?_) (fun _ => ?_))
  · exact ⟨rfl, hS.ext⟩
  · exact ⟨rfl, hS.ext⟩
  rename_i h1 h2
  (conv => whnf)
  (refine drawS tabOk mixed [] (No) [0, 2, 3, 1, 4, 5, 6, 7, 8, 9] (by kernel_rfl) ?_; rintro w1 rfl; replace hS := hS.drew)
  (conv => whnf)
  refine hS.laXF 0 rfl rfl id ?_
  (conv => whnf)
  refine (ownRules_ok (hx.no hS.ext) (by omega)).mono ?_
  rintro v w3 ⟨aa, cc, rfl, hx1, ho, hf⟩
  replace hS := hS.no hx1
  refine KeepC.mk hx1 ?_
  have hz := ownL_slc (G := fun _ => True) codRule ho fun _ _ => trivial
  (conv => whnf)
  refine (admitsP_ok (q := W.heap.size) hz p out ((hE.sub rfl).ext hS.ext fun _ h => h.elim)).mono ?_
  rintro v w4 ⟨⟨e, rfl, hfa⟩, hx2⟩
  replace hS := hS.fault hx2 hfa
  refine KeepC.mk (hx1.trans hx2) ?_
  clear hx1 hx2 ho hf hz hfa
  (conv => whnf)
  refine (ownRules_ok (hx.no hS.ext) (by omega)).mono ?_
  rintro v w3 ⟨aa, cc, rfl, hx1, ho, hf⟩
  replace hS := hS.no hx1
  have hz := ownL_slc (G := fun _ => True) codRule ho fun _ _ => trivial
  clear hx1 ho hf
  (conv => whnf)
  refine (ownRules_ok (hy.no hS.ext) (by omega)).mono ?_
  rintro v w3 ⟨aa, cc, rfl, hx1, ho, hf⟩
  replace hS := hS.no hx1
  have hz2 := ownL_slc (G := fun _ => True) codRule ho fun _ _ => trivial
  replace hz := hz.no hx1
  clear hx1 ho hf
  (conv => whnf)
  refine (same_ok (q := W.heap.size) hz hz2 ((hE.sub rfl).ext hS.ext fun _ h => h.elim)).mono ?_
  rintro v w5 ⟨⟨sv, es, rfl, hfs, hsv⟩, hx1⟩
  replace hS := hS.fault hx1 hfs
  clear hx1 hz hz2 hfs
  (conv => whnf)
  refine (rulesFault_ok (hx.no hS.ext)).mono ?_
  rintro v w6 ⟨rfl, hx1⟩
  replace hS := hS.no hx1
  clear hx1
  have F1s := faultL_small l
  have F2s : (if (faultL l).1 = 0 then (faultL m).1 else (faultL l).1) < 12 ∧ ((if (faultL l).1 = 0 then (faultL m).1 else (faultL l).1) = 0 → (if (faultL l).1 = 0 then (faultL m).2 else (faultL l).2) = -1) := by
    split
    · exact faultL_small m
    · exact F1s
  have hF2 : (if (faultL l).1 = 0 then (faultL m).1 else (faultL l).1) = 0 ↔ GoodR l ∧ GoodR m := by
    split
    · rename_i h
      exact ⟨fun h2 => ⟨hg.1 h, hg1.1 h2⟩, fun h2 => hg1.2 h2.2⟩
    · rename_i h
      exact ⟨fun h2 => absurd h2 h, fun h2 => absurd (hg.2 h2.1) h⟩
  (conv => whnf)
  refine hS.new (fun b14 w' hb14 hS => ?_)
  (conv => whnf)
  refine hS.st 3 rfl (Nat.le_of_ble_eq_true rfl) rfl (fun w' hS => ?_)
  (conv => whnf)
  refine hS.laX 3 rfl rfl ?_
  (conv => whnf)
  refine hS.new (fun b15 w' hb15 hS => ?_)
  (conv => whnf)
  refine hS.st 4 rfl (Nat.le_of_ble_eq_true rfl) rfl (fun w' hS => ?_)
  generalize hfl : faultL l = F at hS hg F1s F2s hF2
  obtain ⟨fc, fa⟩ := F
  dsimp only at hg F1s F2s hF2
  replace hS : St W No w' [blk bp 28 (encPkt p), fvE E e (if fc = 0 then p.err else fc) (if fc = 0 then -1 else fa), fvE E es (if fc = 0 then (faultL m).1 else fc) (if fc = 0 then (faultL m).2 else fa), blk b14 41 (encF fc fa), blk b15 41 (encF fc fa)] := hS
  replace hS := hS.sel [0, 3, 4, 1, 2] (by decide)
  (conv => whnf)
  refine hS.ld 2 rfl rfl ?_
  (conv => whnf)
  refine brD (fun h51 => ?_) (fun h51 => ?_)
  · obtain rfl : fc = 0 := by omega
    have hgl : GoodR l := hg.1 rfl
    (conv => whnf)
    refine (rulesFault_ok (hy.no hS.ext)).mono ?_
    rintro v w6 ⟨rfl, hx1⟩
    replace hS := hS.no hx1
    clear hx1
    (conv => whnf)
    refine hS.st 2 rfl (Nat.le_of_ble_eq_true rfl) rfl (fun w' hS => ?_)
    generalize faultL m = F at hS hF2 F2s
    obtain ⟨gc, ga⟩ := F
    dsimp only at hF2 F2s
    rw [if_pos rfl] at hF2 F2s
    rw [if_pos rfl] at F2s
    replace hS : St W No w' [blk bp 28 (encPkt p), blk b14 41 (encF 0 fa), blk b15 41 (encF gc ga), fvE E e p.err (-1), fvE E es gc ga] := hS
    (conv => whnf)
    (refine drawS tabOk mixed [] (No) [0, 3, 1, 2, 4, 5] (by kernel_rfl) ?_; rintro w1 rfl; replace hS := hS.drew)
    (conv => whnf)
    refine hS.laXF 1 rfl rfl id ?_
    (conv => whnf)
    refine (ownRules_ok (hx.no hS.ext) (by omega)).mono ?_
    rintro v w3 ⟨aa, cc, rfl, hx1, ho, hf⟩
    replace hS := hS.no hx1
    refine KeepC.mk hx1 ?_
    have hz := ownL_slc (G := fun _ => True) codRule ho fun _ _ => trivial
    (conv => whnf)
    refine (rcheck_ok (q := W.heap.size) hz ((hE.sub rfl).ext hS.ext fun _ h => h.elim)).mono ?_
    rintro v w5 ⟨hfc, hx2⟩
    replace hS := hS.no hx2
    refine KeepC.mk (hx1.trans hx2) ?_
    rw [hfl] at hfc
    (conv => whnf)
    refine (faulted1_ok hfc F1s.2 F1s.1 (hE.ext hS.ext fun _ h => h.elim) (hh.ext hS.ext)).mono ?_
    rintro v w6 ⟨rfl, hx3⟩
    replace hS := hS.no hx3
    refine KeepC.mk ((hx1.trans hx2).trans hx3) ?_
    clear hx1 hx2 hx3 ho hf hz hfc
    (conv => whnf)
    refine hS.ld 1 rfl rfl ?_
    (conv => whnf)
    refine hS.laX 0 rfl rfl ?_
    (conv => whnf)
    refine (perror_ok p _).mono ?_
    rintro v w7 ⟨rfl, hx1⟩
    replace hS := hS.no hx1
    (conv => whnf)
    refine (bare_ok p.err _).mono ?_
    rintro v w8 ⟨rfl, hx2⟩
    replace hS := hS.no hx2
    clear hx1 hx2
    (conv => whnf)
    refine hS.st 1 rfl (Nat.le_of_ble_eq_true rfl) rfl (fun w' hS => ?_)
    replace hS : St W No w' [blk bp 28 (encPkt p), blk b14 41 (encF p.err (-1)), blk b15 41 (encF gc ga), fvE E e p.err (-1), fvE E es gc ga] := hS
    (conv => whnf)
    refine hS.ld 1 rfl rfl ?_
    obtain ⟨_, hfe⟩ := hS.get 3 rfl
    (conv => whnf)
    refine brD (fun h68 => ?_) (fun h68 => ?_)
    · (conv => whnf)
      refine hS.laX 1 rfl rfl ?_
      (conv => whnf)
      refine (faulted1_ok hfe (fun _ => rfl) p.err_code (hE.ext hS.ext fun _ h => h.elim) (hh.ext hS.ext)).mono ?_
      rintro v w9 ⟨rfl, hx9⟩
      replace hS := hS.no hx9
      rw [show (decide (GoodR l ∧ p.err = 0) && admitsL p.proto p.dp out l) = false by rw [decide_eq_false (fun h => by have := h.2; omega)]; rfl]
      (conv => whnf)
      refine hS.ld 2 rfl rfl ?_
      (conv => whnf)
      refine brD (fun h92 => ?_) (fun h92 => ?_)
      · (conv => whnf)
        refine hS.laX 2 rfl rfl ?_
        obtain ⟨_, hfs⟩ := hS.get 4 rfl
        (conv => whnf)
        refine (faulted1_ok hfs F2s.2 F2s.1 (hE.ext hS.ext fun _ h => h.elim) (hh.ext hS.ext)).mono ?_
        rintro v w9 ⟨rfl, hx9⟩
        replace hS := hS.no hx9
        obtain rfl : sv = false := by
          cases sv
          · rfl
          · exact absurd (hF2.2 ⟨(hsv.1 rfl).1, (hsv.1 rfl).2.1⟩) (by omega)
        repeat' ((conv => whnf); first | refine RetC.mk ?_ | refine NzC.mk (by decide) ?_ | refine RngC.mk (by omega) (by omega) ?_ | refine IdxC.mk (by omega) (by omega) ?_ | refine brD (fun _ => ?_) (fun _ => ?_) | refine brND (fun _ => ?_) (fun _ => ?_) | refine brN (fun _ => ?_) (fun _ => ?_) | refine brI (fun _ => ?_) (fun _ => ?_))
        exact ⟨rfl, hS.ext⟩
      · obtain ⟨_, hfs⟩ := hS.get 4 rfl
        obtain rfl := hfs.nil (by omega)
        have hgd := hF2.1 (by omega)
        (conv => whnf)
        refine (sameOf_ok (hx.no hS.ext) (hy.no hS.ext) hgd.1 hgd.2).mono ?_
        rintro v w9 ⟨⟨s2, rfl, hs2⟩, hx9⟩
        replace hS := hS.no hx9
        have e : sv = s2 := by
          rw [Bool.eq_iff_iff, hs2, hsv]
          exact ⟨fun h => h.2.2, fun h => ⟨hgd.1, hgd.2, h⟩⟩
        subst e
        repeat' ((conv => whnf); first | refine RetC.mk ?_ | refine NzC.mk (by decide) ?_ | refine RngC.mk (by omega) (by omega) ?_ | refine IdxC.mk (by omega) (by omega) ?_ | refine brD (fun _ => ?_) (fun _ => ?_) | refine brND (fun _ => ?_) (fun _ => ?_) | refine brN (fun _ => ?_) (fun _ => ?_) | refine brI (fun _ => ?_) (fun _ => ?_))
        exact ⟨by cases sv <;> rfl, hS.ext⟩
    · have hpe : p.err = 0 := by omega
      obtain rfl := hfe.nil hpe
      rw [show (decide (GoodR l ∧ p.err = 0) && admitsL p.proto p.dp out l) = admitsL p.proto p.dp out l by rw [decide_eq_true ⟨hgl, hpe⟩, Bool.true_and]]
      repeat' ((conv => whnf); first | refine RetC.mk ?_ | refine NzC.mk (by decide) ?_ | refine RngC.mk (by omega) (by omega) ?_ | refine IdxC.mk (by omega) (by omega) ?_ | refine hS.ld 0 rfl rfl ?_ | refine hS.laX 0 rfl rfl ?_ | refine brD (fun _ => ?_) (fun _ => ?_) | refine brND (fun _ => ?_) (fun _ => ?_) | refine brN (fun _ => ?_) (fun _ => ?_) | refine brI (fun _ => ?_) (fun _ => ?_))
      refine (admitsOf_ok (hx.no hS.ext) p.proto p.dp out).mono ?_
      rintro v w9 ⟨rfl, hx9⟩
      replace hS := hS.no hx9
      clear hx9
      (conv => whnf)
      rw [show (!(admitsL p.proto p.dp out l == admitsL p.proto p.dp out l)) = false by cases admitsL p.proto p.dp out l <;> rfl]
      (conv => whnf)
      refine hS.ld 2 rfl rfl ?_
      (conv => whnf)
      refine brD (fun h92 => ?_) (fun h92 => ?_)
      · (conv => whnf)
        refine hS.laX 2 rfl rfl ?_
        obtain ⟨_, hfs⟩ := hS.get 4 rfl
        (conv => whnf)
        refine (faulted1_ok hfs F2s.2 F2s.1 (hE.ext hS.ext fun _ h => h.elim) (hh.ext hS.ext)).mono ?_
        rintro v w9 ⟨rfl, hx9⟩
        replace hS := hS.no hx9
        obtain rfl : sv = false := by
          cases sv
          · rfl
          · exact absurd (hF2.2 ⟨(hsv.1 rfl).1, (hsv.1 rfl).2.1⟩) (by omega)
        repeat' ((conv => whnf); first | refine RetC.mk ?_ | refine NzC.mk (by decide) ?_ | refine RngC.mk (by omega) (by omega) ?_ | refine IdxC.mk (by omega) (by omega) ?_ | refine brD (fun _ => ?_) (fun _ => ?_) | refine brND (fun _ => ?_) (fun _ => ?_) | refine brN (fun _ => ?_) (fun _ => ?_) | refine brI (fun _ => ?_) (fun _ => ?_))
        exact ⟨rfl, hS.ext⟩
      · obtain ⟨_, hfs⟩ := hS.get 4 rfl
        obtain rfl := hfs.nil (by omega)
        have hgd := hF2.1 (by omega)
        (conv => whnf)
        refine (sameOf_ok (hx.no hS.ext) (hy.no hS.ext) hgd.1 hgd.2).mono ?_
        rintro v w9 ⟨⟨s2, rfl, hs2⟩, hx9⟩
        replace hS := hS.no hx9
        have e : sv = s2 := by
          rw [Bool.eq_iff_iff, hs2, hsv]
          exact ⟨fun h => h.2.2, fun h => ⟨hgd.1, hgd.2, h⟩⟩
        subst e
        repeat' ((conv => whnf); first | refine RetC.mk ?_ | refine NzC.mk (by decide) ?_ | refine RngC.mk (by omega) (by omega) ?_ | refine IdxC.mk (by omega) (by omega) ?_ | refine brD (fun _ => ?_) (fun _ => ?_) | refine brND (fun _ => ?_) (fun _ => ?_) | refine brN (fun _ => ?_) (fun _ => ?_) | refine brI (fun _ => ?_) (fun _ => ?_))
        exact ⟨by cases sv <;> rfl, hS.ext⟩
  · have hfc0 : ¬ fc = 0 := by omega
    rw [if_neg hfc0] at hF2 F2s
    rw [if_neg hfc0] at F2s
    rw [if_neg hfc0, if_neg hfc0, if_neg hfc0, if_neg hfc0] at hS
    have hng : ¬ GoodR l := fun h => hfc0 (hg.2 h)
    (conv => whnf)
    (refine drawS tabOk mixed [] (No) [0, 3, 1, 2, 4, 5] (by kernel_rfl) ?_; rintro w1 rfl; replace hS := hS.drew)
    (conv => whnf)
    refine hS.laXF 1 rfl rfl id ?_
    (conv => whnf)
    refine (ownRules_ok (hx.no hS.ext) (by omega)).mono ?_
    rintro v w3 ⟨aa, cc, rfl, hx1, ho, hf⟩
    replace hS := hS.no hx1
    refine KeepC.mk hx1 ?_
    have hz := ownL_slc (G := fun _ => True) codRule ho fun _ _ => trivial
    (conv => whnf)
    refine (rcheck_ok (q := W.heap.size) hz ((hE.sub rfl).ext hS.ext fun _ h => h.elim)).mono ?_
    rintro v w5 ⟨hfc, hx2⟩
    replace hS := hS.no hx2
    refine KeepC.mk (hx1.trans hx2) ?_
    rw [hfl] at hfc
    (conv => whnf)
    refine (faulted1_ok hfc F1s.2 F1s.1 (hE.ext hS.ext fun _ h => h.elim) (hh.ext hS.ext)).mono ?_
    rintro v w6 ⟨rfl, hx3⟩
    replace hS := hS.no hx3
    refine KeepC.mk ((hx1.trans hx2).trans hx3) ?_
    clear hx1 hx2 hx3 ho hf hz hfc
    (conv => whnf)
    refine hS.ld 1 rfl rfl ?_
    (conv => whnf)
    refine brD (fun h => absurd h (by omega)) (fun _ => ?_)
    (conv => whnf)
    refine hS.ld 1 rfl rfl ?_
    obtain ⟨_, hfe⟩ := hS.get 3 rfl
    (conv => whnf)
    refine brD (fun h68 => ?_) (fun h => absurd h (by omega))
    (conv => whnf)
    refine hS.laX 1 rfl rfl ?_
    (conv => whnf)
    refine (faulted1_ok hfe F1s.2 F1s.1 (hE.ext hS.ext fun _ h => h.elim) (hh.ext hS.ext)).mono ?_
    rintro v w9 ⟨rfl, hx9⟩
    replace hS := hS.no hx9
    rw [show (decide (GoodR l ∧ p.err = 0) && admitsL p.proto p.dp out l) = false by rw [decide_eq_false (fun h => hng h.1)]; rfl]
    (conv => whnf)
    refine hS.ld 2 rfl rfl ?_
    (conv => whnf)
    refine brD (fun h92 => ?_) (fun h92 => ?_)
    · (conv => whnf)
      refine hS.laX 2 rfl rfl ?_
      obtain ⟨_, hfs⟩ := hS.get 4 rfl
      (conv => whnf)
      refine (faulted1_ok hfs F2s.2 F2s.1 (hE.ext hS.ext fun _ h => h.elim) (hh.ext hS.ext)).mono ?_
      rintro v w9 ⟨rfl, hx9⟩
      replace hS := hS.no hx9
      obtain rfl : sv = false := by
        cases sv
        · rfl
        · exact absurd (hF2.2 ⟨(hsv.1 rfl).1, (hsv.1 rfl).2.1⟩) (by omega)
      repeat' ((conv => whnf); first | refine RetC.mk ?_ | refine NzC.mk (by decide) ?_ | refine RngC.mk (by omega) (by omega) ?_ | refine IdxC.mk (by omega) (by omega) ?_ | refine brD (fun _ => ?_) (fun _ => ?_) | refine brND (fun _ => ?_) (fun _ => ?_) | refine brN (fun _ => ?_) (fun _ => ?_) | refine brI (fun _ => ?_) (fun _ => ?_))
      exact ⟨rfl, hS.ext⟩
    · obtain ⟨_, hfs⟩ := hS.get 4 rfl
      obtain rfl := hfs.nil (by omega)
      have hgd := hF2.1 (by omega)
      (conv => whnf)
      refine (sameOf_ok (hx.no hS.ext) (hy.no hS.ext) hgd.1 hgd.2).mono ?_
      rintro v w9 ⟨⟨s2, rfl, hs2⟩, hx9⟩
      replace hS := hS.no hx9
      have e : sv = s2 := by
        rw [Bool.eq_iff_iff, hs2, hsv]
        exact ⟨fun h => h.2.2, fun h => ⟨hgd.1, hgd.2, h⟩⟩
      subst e
      repeat' ((conv => whnf); first | refine RetC.mk ?_ | refine NzC.mk (by decide) ?_ | refine RngC.mk (by omega) (by omega) ?_ | refine IdxC.mk (by omega) (by omega) ?_ | refine brD (fun _ => ?_) (fun _ => ?_) | refine brND (fun _ => ?_) (fun _ => ?_) | refine brN (fun _ => ?_) (fun _ => ?_) | refine brI (fun _ => ?_) (fun _ => ?_))
      exact ⟨by cases sv <;> rfl, hS.ext⟩

theorem policyAdmits_walk {E : Nat → Addr} (W : World) (args : List Value) (hE : Errs W E W.heap.size allErrs) (hh : Handle W) (ht : Pow10 W) (hP : Protos W) (ha : ArgsOk Tryd.prog W [22, 28, 4, 22] args) :
    CallC Tryd.prog 5 args.toArray W fun v w' => v = .bool true ∧ Ext No W w' := by
  obtain ⟨v0, args, rfl, h0, ha⟩ := ha.cons
  obtain ⟨v1, args, rfl, h1, ha⟩ := ha.cons
  obtain ⟨v2, args, rfl, h2, ha⟩ := ha.cons
  obtain ⟨v3, args, rfl, h3, ha⟩ := ha.cons
  obtain rfl := ha.nil
  obtain ⟨d, hd⟩ : ∃ d, 10 ≤ d := ⟨10, Nat.le_refl _⟩
  obtain ⟨a0, n0, c0, xs, rfl, hx, _⟩ := arg_slice (d := d) (sz := 5) Tryd.underlying22 (by kernel_rfl) (by decide) (dec_rule hd) h0
  obtain ⟨p, rfl, _⟩ := arg_pkt h1
  obtain ⟨out, rfl⟩ := arg_bool Tryd.underlying4 h2
  obtain ⟨a1, n1, c1, ys, rfl, hy, _⟩ := arg_slice (d := d) (sz := 5) Tryd.underlying22 (by kernel_rfl) (by decide) (dec_rule hd) h3
  exact policyAdmits_ok W hE hh ht hP a0 n0 c0 xs hx p out a1 n1 c1 ys hy
end Go.Proofs.YtakdekkieobbaaaDoor
