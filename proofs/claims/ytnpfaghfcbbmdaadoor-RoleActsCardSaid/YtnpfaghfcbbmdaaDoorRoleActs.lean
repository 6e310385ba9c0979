/-
  RoleActs returns true whatever its arguments.
-/
import Derived.Test.YtnpfaghfcbbmdaaDoorAs
import Derived.Test.YtnpfaghfcbbmdaaDoorRefRole
import Derived.Test.YtnpfaghfcbbmdaaDoorRefHear
namespace Go.Proofs.YtnpfaghfcbbmdaaDoor
open Go Ev

theorem RoleS.Ok.tick {r : RoleS} (h : r.Ok) {k : Nat} (hk : k ≤ 100) (hs : r.silence ≤ k) : r.tick.2.Ok := by
  have hk := h
  obtain ⟨q0, e0, e1, s0, s1⟩ := h
  unfold RoleS.tick
  split
  · exact hk
  · exact ⟨q0, e0, e1, by show 0 ≤ r.silence + 1; omega, by show r.silence + 1 ≤ _; omega⟩
theorem RoleS.tick_silence {r : RoleS} {k : Nat} (h : r.silence ≤ k) : r.tick.2.silence ≤ ((k + 1 : Nat) : Int) := by
  unfold RoleS.tick
  split
  · show r.silence ≤ _; omega
  · show r.silence + 1 ≤ _; omega

theorem roleActs_ok {E : Nat → Addr} (W : World) (hE : Errs W E W.heap.size allErrs) (hh : Handle W) (nd ep : Int) (a0 a1 : Option Addr) (n0 n1 c0 c1 : Nat) (xs ys : List Int) (hx0 : Slc W 1 encI (fun _ => True) a0 n0 xs) (hx1 : Slc W 1 encI (fun _ => True) a1 n1 ys) :
    CallC Tryd.prog 7 #[.int .i64 nd, .int .i64 ep, .slice a0 n0 c0, .slice a1 n1 c1] W fun v w' => v = .bool true ∧ Ext No W w' := by
  have hm := hx0.max
  have hm1 := hx1.max
  refine fn_intro tabOk Tryd.func7 (by kernel_rfl) rfl Tryd.ntmps7 (Nat.le_of_ble_eq_true rfl) ?_
  have hS := St.start W No
  (conv => whnf)
  refine (stands_ok _ (hE.sub rfl) (Nat.le_refl _)).mono ?_
  rintro v w' ⟨rfl, hx⟩
  replace hS := hS.no hx
  (conv => whnf)
  refine brD (fun h3 => ?_) (fun h3 => ?_)
  · repeat' ((conv => whnf); first | refine RetC.mk ?_ | refine NzC.mk (by decide) ?_ | refine RngC.mk (by omega) (by omega) ?_ | refine IdxC.mk (by omega) (by omega) ?_ | refine brD (fun _ => ?_) (fun _ => ?_) | refine brND (fun _ => ?_) (fun _ => ?_) | refine brN (fun _ => ?_) (fun _ => ?_) | refine brI (fun _ => ?_) (fun _ => ?_))
    exact ⟨rfl, hS.ext⟩
  (conv => whnf)
  by_cases hok : (nd = 0 ∨ nd = 1) ∧ 0 ≤ ep ∧ ep ≤ 1073741824
  · refine CallC.mono (role_new _ _ _ hok.1 hok.2.1 hok.2.2) ?_
    rintro v w' ⟨b, rfl, hb, hx, hB⟩
    replace hS := hS.made hx (blk_local _ _ _) hB (by simp [blk]; exact ⟨hb, hB.lt⟩)
    have hb0 := hS.fresh 0 rfl
    (conv => whnf)
    refine brD (fun h4 => ?_) (fun h4 => ?_)
    · exfalso; omega
    (conv => whnf)
    refine brD (fun h4 => ?_) (fun h4 => ?_)
    · exfalso; omega
    (conv => whnf)
    refine brD (fun h4 => ?_) (fun h4 => ?_)
    · exfalso; omega
    (conv => whnf)
    refine brD (fun h4 => ?_) (fun h4 => ?_)
    · exfalso; omega
    (conv => whnf)
    refine hS.new (fun b1 w' hb1 hS => ?_)
    (conv => whnf)
    refine loopR tabOk (fun σ w n => ∃ (k : Nat) (r : RoleS), σ = [(13, .int .i64 k), (12, .pointer (some ⟨b1, 0, none⟩)), (10, .pointer (some ⟨b, 0, none⟩)), (3, .slice a1 n1 c1), (2, .slice a0 n0 c0)] ∧ n = n0 - k ∧ k ≤ n0 ∧
        St W No w [blk b 96 (encRole r), blk b1 49 (encRole r)] ∧ r.Ok ∧ r.silence ≤ k)
      (σ' := [(13, .int .i64 ((0 : Nat) : Int)), (12, .pointer (some ⟨b1, 0, none⟩)), (10, .pointer (some ⟨b, 0, none⟩)), (3, .slice a1 n1 c1), (2, .slice a0 n0 c0)]) (n := n0)
      ⟨rfl, rfl, rfl, rfl, rfl, trivial⟩ ⟨0, ⟨nd, ep, 0, false⟩, rfl, rfl, Nat.zero_le _, hS, ⟨hok.1, hok.2.1, hok.2.2, Int.le_refl _, by show (0 : Int) ≤ _; decide⟩, Int.le_refl _⟩ ?_
    clear hS
    rintro _ w n ⟨k, r, rfl, rfl, hk, hS, hr, hs⟩
    (conv => whnf)
    refine brD (fun h5 => ?_) (fun h5 => ?_)
    · have hk3 : k < n0 := by omega
      obtain ⟨ba, oa, x, _, _, rfl, hf⟩ := hx0.at1 hk3
      have hf := hf 0 _ rfl
      (conv => whnf)
      refine IdxC.mk (by omega) (by omega) ?_
      (conv => whnf)
      refine hS.ldr hf id ?_
      (conv => whnf)
      refine brD (fun h6 => ?_) (fun h6 => ?_)
      · (conv => whnf)
        refine (role_tick (hS.blk 0 rfl) hr).mono ?_
        rintro v w' ⟨rfl, hx, hB⟩
        replace hS := hS.upd 0 rfl hx (fun c hc => by subst hc; exact List.mem_singleton.2 rfl) (blk_local _ _ _) hB (fun c hc => .inl hc)
        (conv => whnf)
        refine (ref_tick (hS.blk 1 rfl) hr).mono ?_
        rintro v w' ⟨rfl, hx, hB⟩
        replace hS := hS.upd 1 rfl hx (fun c hc => by subst hc; exact List.mem_singleton.2 rfl) (blk_local _ _ _) hB (fun c hc => .inl hc)
        (conv => whnf)
        refine brN (fun h7 => ?_) (fun h7 => ?_)
        · exact absurd h7 (by simp)
        have hr2 := hr.tick (by omega) hs
        have hs2 := RoleS.tick_silence hs
        (conv => whnf)
        refine drawS tabOk mixed [] No [0, 2, 3, 4, 5, 1, 6, 7, 8, 10, 11, 12, 13, 9, 14, 15] (by kernel_rfl) ?_
        rintro w1 rfl
        replace hS := hS.drew
        (conv => whnf)
        refine hS.ldF 1 rfl rfl id ?_
        (conv => whnf)
        refine (role_active (hS.blk 0 rfl)).mono ?_
        rintro v w' ⟨rfl, rfl⟩
        refine KeepC.mk (Ext.refl _ _) ?_
        (conv => whnf)
        refine brN (fun h6 => ?_) (fun h6 => ?_)
        · exact absurd h6 (by simp)
        (conv => whnf)
        refine hS.ldF 1 rfl rfl id ?_
        (conv => whnf)
        refine (role_epoch (hS.blk 0 rfl)).mono ?_
        rintro v w' ⟨rfl, rfl⟩
        refine KeepC.mk (Ext.refl _ _) ?_
        (conv => whnf)
        refine brND (fun h7 => absurd rfl h7) (fun _ => ?_)
        (conv => whnf)
        refine RngC.mk (by omega) (by omega) ?_
        (conv => whnf)
        exact LoopE.mk ⟨_, [(13, .int .i64 ((k + 1 : Nat) : Int)), (12, _), (10, _), (3, _), (2, _)], by omega, ⟨rfl, rfl, rfl, rfl, rfl, trivial⟩, ⟨k + 1, r.tick.2, rfl, rfl, by omega, hS, hr2, hs2⟩⟩
      · (conv => whnf)
        refine brD (fun h6 => ?_) (fun h6 => ?_)
        · (conv => whnf)
          refine (role_next (hS.blk 0 rfl) hr ((hE.sub rfl).ext hS.ext fun _ h => h.elim)).mono ?_
          rintro v w' ⟨rfl, hx⟩
          replace hS := hS.no hx
          (conv => whnf)
          refine (ref_next (hS.blk 1 rfl) hr).mono ?_
          rintro v w' ⟨rfl, rfl⟩
          (conv => whnf)
          refine (coded2_ok _ _ RoleS.next_code _ (hE.ext hS.ext fun _ h => h.elim) (hh.ext hS.ext)).mono ?_
          rintro v w' ⟨rfl, hx⟩
          replace hS := hS.no hx
          (conv => whnf)
          refine brND (fun h8 => absurd rfl h8) (fun _ => ?_)
          (conv => whnf)
          refine brND (fun h8 => absurd rfl h8) (fun _ => ?_)
          (conv => whnf)
          refine brD (fun h9 => ?_) (fun h9 => ?_)
          · obtain ⟨bc, oc, y, _, _, rfl, hg⟩ := hx1.at1 (show k < n1 by omega)
            have hg := hg 0 _ rfl
            (conv => whnf)
            refine IdxC.mk (by omega) (by omega) ?_
            (conv => whnf)
            refine hS.ldr hg id ?_
            (conv => whnf)
            refine (role_claim y (hS.blk 0 rfl) hr ((hE.sub rfl).ext hS.ext fun _ h => h.elim) hb0).mono ?_
            rintro v w' ⟨rfl, hx, hB⟩
            replace hS := hS.upd 0 rfl hx (fun c hc => by subst hc; exact List.mem_singleton.2 rfl) (blk_local _ _ _) hB (fun c hc => .inl hc)
            (conv => whnf)
            refine (ref_claim y (hS.blk 1 rfl) hr).mono ?_
            rintro v w' ⟨rfl, hx, hB⟩
            replace hS := hS.upd 1 rfl hx (fun c hc => by subst hc; exact List.mem_singleton.2 rfl) (blk_local _ _ _) hB (fun c hc => .inl hc)
            (conv => whnf)
            refine (coded2_ok _ _ (RoleS.claim_code _) _ (hE.ext hS.ext fun _ h => h.elim) (hh.ext hS.ext)).mono ?_
            rintro v w' ⟨rfl, hx⟩
            replace hS := hS.no hx
            have hr2 := hr.claim y
            have hs2 : (r.claim y).2.silence ≤ ((k + 1 : Nat) : Int) := RoleS.claim_silence (by omega) y
            (conv => whnf)
            refine brND (fun h8 => absurd rfl h8) (fun _ => ?_)
            (conv => whnf)
            refine drawS tabOk mixed [] No [0, 2, 3, 4, 5, 1, 6, 7, 8, 10, 11, 12, 13, 9, 14, 15] (by kernel_rfl) ?_
            rintro w1 rfl
            replace hS := hS.drew
            (conv => whnf)
            refine hS.ldF 1 rfl rfl id ?_
            (conv => whnf)
            refine (role_active (hS.blk 0 rfl)).mono ?_
            rintro v w' ⟨rfl, rfl⟩
            refine KeepC.mk (Ext.refl _ _) ?_
            (conv => whnf)
            refine brN (fun h6 => ?_) (fun h6 => ?_)
            · exact absurd h6 (by simp)
            (conv => whnf)
            refine hS.ldF 1 rfl rfl id ?_
            (conv => whnf)
            refine (role_epoch (hS.blk 0 rfl)).mono ?_
            rintro v w' ⟨rfl, rfl⟩
            refine KeepC.mk (Ext.refl _ _) ?_
            (conv => whnf)
            refine brND (fun h7 => absurd rfl h7) (fun _ => ?_)
            (conv => whnf)
            refine RngC.mk (by omega) (by omega) ?_
            (conv => whnf)
            exact LoopE.mk ⟨_, [(13, .int .i64 ((k + 1 : Nat) : Int)), (12, _), (10, _), (3, _), (2, _)], by omega, ⟨rfl, rfl, rfl, rfl, rfl, trivial⟩, ⟨k + 1, (r.claim y).2, rfl, rfl, by omega, hS, hr2, hs2⟩⟩
          · (conv => whnf)
            refine (role_claim r.next.1 (hS.blk 0 rfl) hr ((hE.sub rfl).ext hS.ext fun _ h => h.elim) hb0).mono ?_
            rintro v w' ⟨rfl, hx, hB⟩
            replace hS := hS.upd 0 rfl hx (fun c hc => by subst hc; exact List.mem_singleton.2 rfl) (blk_local _ _ _) hB (fun c hc => .inl hc)
            (conv => whnf)
            refine (ref_claim r.next.1 (hS.blk 1 rfl) hr).mono ?_
            rintro v w' ⟨rfl, hx, hB⟩
            replace hS := hS.upd 1 rfl hx (fun c hc => by subst hc; exact List.mem_singleton.2 rfl) (blk_local _ _ _) hB (fun c hc => .inl hc)
            (conv => whnf)
            refine (coded2_ok _ _ (RoleS.claim_code _) _ (hE.ext hS.ext fun _ h => h.elim) (hh.ext hS.ext)).mono ?_
            rintro v w' ⟨rfl, hx⟩
            replace hS := hS.no hx
            have hr2 := hr.claim r.next.1
            have hs2 : (r.claim r.next.1).2.silence ≤ ((k + 1 : Nat) : Int) := RoleS.claim_silence (by omega) r.next.1
            (conv => whnf)
            refine brND (fun h8 => absurd rfl h8) (fun _ => ?_)
            (conv => whnf)
            refine drawS tabOk mixed [] No [0, 2, 3, 4, 5, 1, 6, 7, 8, 10, 11, 12, 13, 9, 14, 15] (by kernel_rfl) ?_
            rintro w1 rfl
            replace hS := hS.drew
            (conv => whnf)
            refine hS.ldF 1 rfl rfl id ?_
            (conv => whnf)
            refine (role_active (hS.blk 0 rfl)).mono ?_
            rintro v w' ⟨rfl, rfl⟩
            refine KeepC.mk (Ext.refl _ _) ?_
            (conv => whnf)
            refine brN (fun h6 => ?_) (fun h6 => ?_)
            · exact absurd h6 (by simp)
            (conv => whnf)
            refine hS.ldF 1 rfl rfl id ?_
            (conv => whnf)
            refine (role_epoch (hS.blk 0 rfl)).mono ?_
            rintro v w' ⟨rfl, rfl⟩
            refine KeepC.mk (Ext.refl _ _) ?_
            (conv => whnf)
            refine brND (fun h7 => absurd rfl h7) (fun _ => ?_)
            (conv => whnf)
            refine RngC.mk (by omega) (by omega) ?_
            (conv => whnf)
            exact LoopE.mk ⟨_, [(13, .int .i64 ((k + 1 : Nat) : Int)), (12, _), (10, _), (3, _), (2, _)], by omega, ⟨rfl, rfl, rfl, rfl, rfl, trivial⟩, ⟨k + 1, (r.claim r.next.1).2, rfl, rfl, by omega, hS, hr2, hs2⟩⟩
        · (conv => whnf)
          have hba := cell_lt hf
          simp only at hba
          refine drawS tabOk mixed [] (fun b => W.heap.size ≤ b) [0, 1, 2, 3, 4, 6, 7, 8, 9, 10, 5, 11, 12] (by kernel_rfl) ?_
          rintro w1 rfl
          replace hS := hS.drew
          (conv => whnf)
          refine IdxC.mk (by omega) (by omega) ?_
          (conv => whnf)
          refine hS.ldrF hf id (by omega) ?_
          (conv => whnf)
          refine IdxC.mk (by omega) (by omega) ?_
          (conv => whnf)
          refine hS.ldrF hf id (by omega) ?_
          (conv => whnf)
          have hb1' := hS.fresh 1 rfl
          refine (role_hear x (hS.blk 0 rfl)).mono ?_
          rintro v w' ⟨rfl, hx, hB⟩
          replace hS := hS.upd 0 rfl hx (fun c hc => by subst hc; exact List.mem_singleton.2 rfl) (blk_local _ _ _) hB (fun c hc => .inl hc)
          have hxa := hx.mono (T := fun b => W.heap.size ≤ b) (fun c hc => by subst hc; exact hb0)
          refine KeepC.mk hxa ?_
          (conv => whnf)
          refine (ref_hear x (hS.blk 1 rfl)).mono ?_
          rintro v w' ⟨rfl, hx, hB⟩
          replace hS := hS.upd 1 rfl hx (fun c hc => by subst hc; exact List.mem_singleton.2 rfl) (blk_local _ _ _) hB (fun c hc => .inl hc)
          refine KeepC.mk (hxa.trans (hx.mono (fun c hc => by subst hc; exact hb1'))) ?_
          have hr2 := hr.hear x
          have hs2 : (r.hear x).2.silence ≤ ((k + 1 : Nat) : Int) := by have := RoleS.hear_silence hs x; omega
          (conv => whnf)
          refine brN (fun h7 => ?_) (fun h7 => ?_)
          · exact absurd h7 (by simp)
          (conv => whnf)
          refine drawS tabOk mixed [] No [0, 2, 3, 4, 5, 1, 6, 7, 8, 10, 11, 12, 13, 9, 14, 15] (by kernel_rfl) ?_
          rintro w1 rfl
          replace hS := hS.drew
          (conv => whnf)
          refine hS.ldF 1 rfl rfl id ?_
          (conv => whnf)
          refine (role_active (hS.blk 0 rfl)).mono ?_
          rintro v w' ⟨rfl, rfl⟩
          refine KeepC.mk (Ext.refl _ _) ?_
          (conv => whnf)
          refine brN (fun h6 => ?_) (fun h6 => ?_)
          · exact absurd h6 (by simp)
          (conv => whnf)
          refine hS.ldF 1 rfl rfl id ?_
          (conv => whnf)
          refine (role_epoch (hS.blk 0 rfl)).mono ?_
          rintro v w' ⟨rfl, rfl⟩
          refine KeepC.mk (Ext.refl _ _) ?_
          (conv => whnf)
          refine brND (fun h7 => absurd rfl h7) (fun _ => ?_)
          (conv => whnf)
          refine RngC.mk (by omega) (by omega) ?_
          (conv => whnf)
          exact LoopE.mk ⟨_, [(13, .int .i64 ((k + 1 : Nat) : Int)), (12, _), (10, _), (3, _), (2, _)], by omega, ⟨rfl, rfl, rfl, rfl, rfl, trivial⟩, ⟨k + 1, (r.hear x).2, rfl, rfl, by omega, hS, hr2, hs2⟩⟩
    · repeat' ((conv => whnf); first | refine RetC.mk ?_ | refine NzC.mk (by decide) ?_ | refine RngC.mk (by omega) (by omega) ?_ | refine IdxC.mk (by omega) (by omega) ?_ | refine brD (fun _ => ?_) (fun _ => ?_) | refine brND (fun _ => ?_) (fun _ => ?_) | refine brN (fun _ => ?_) (fun _ => ?_) | refine brI (fun _ => ?_) (fun _ => ?_))
      exact ⟨rfl, hS.ext⟩
  · refine CallC.mono (role_new_bad _ _ _ hok ((hE.sub rfl).ext hS.ext fun _ h => h.elim)) ?_
    rintro v w' ⟨rfl, hx⟩
    replace hS := hS.no hx
    repeat' ((conv => whnf); first | refine brD (fun _ => ?_) (fun _ => ?_) | refine CallC.mono (coded2_ok 2 2 (by decide) _ (hE.ext hS.ext fun _ h => h.elim) (hh.ext hS.ext)) ?_)
    all_goals first | (exfalso; omega) | skip
    all_goals (rintro v w' ⟨rfl, hx⟩; replace hS := hS.no hx; repeat' ((conv => whnf); first | refine RetC.mk ?_ | refine NzC.mk (by decide) ?_ | refine RngC.mk (by omega) (by omega) ?_ | refine IdxC.mk (by omega) (by omega) ?_ | refine brD (fun _ => ?_) (fun _ => ?_) | refine brND (fun _ => ?_) (fun _ => ?_) | refine brN (fun _ => ?_) (fun _ => ?_) | refine brI (fun _ => ?_) (fun _ => ?_)))
    all_goals exact ⟨rfl, hS.ext⟩

theorem roleActs_walk {E : Nat → Addr} (W : World) (args : List Value) (hE : Errs W E W.heap.size allErrs) (hh : Handle W) (ha : ArgsOk Tryd.prog W [3, 3, 22, 22] args) :
    CallC Tryd.prog 7 args.toArray W fun v w' => v = .bool true ∧ Ext No W w' := by
  obtain ⟨v0, args, rfl, h0, ha⟩ := ha.cons
  obtain ⟨v1, args, rfl, h1, ha⟩ := ha.cons
  obtain ⟨v2, args, rfl, h2, ha⟩ := ha.cons
  obtain ⟨v3, args, rfl, h3, ha⟩ := ha.cons
  obtain rfl := ha.nil
  obtain ⟨x0, rfl, _⟩ := arg_int Tryd.underlying3 h0
  obtain ⟨x1, rfl, _⟩ := arg_int Tryd.underlying3 h1
  obtain ⟨a0, n0, c0, xs, rfl, hx, _⟩ := arg_slice (d := 1) (sz := 1) Tryd.underlying22 (by kernel_rfl) (by decide) (dec_int (d := 0) Tryd.underlying3) h2
  obtain ⟨a1, n1, c1, ys, rfl, hy, _⟩ := arg_slice (d := 1) (sz := 1) Tryd.underlying22 (by kernel_rfl) (by decide) (dec_int (d := 0) Tryd.underlying3) h3
  exact roleActs_ok W hE hh x0 x1 a0 a1 n0 n1 c0 c1 xs ys (hx.mono fun _ _ => trivial) (hy.mono fun _ _ => trivial)
end Go.Proofs.YtnpfaghfcbbmdaaDoor
