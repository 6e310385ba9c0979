/-
  RoleSilence returns true whatever its arguments.
-/
import Derived.Test.YtnpfaghfcbbmdaaDoorRole
namespace Go.Proofs.YtnpfaghfcbbmdaaDoor
open Go Ev

theorem roleSilence_ok {E : Nat → Addr} (W : World) (hE : Errs W E W.heap.size [2, 3, 11]) (nd ep : Int) (a0 : Option Addr) (n0 c0 : Nat) (xs : List Int) (hx0 : Slc W 1 encI (fun _ => True) a0 n0 xs) :
    CallC Tryd.prog 6 #[.int .i64 nd, .int .i64 ep, .slice a0 n0 c0] W fun v w' => v = .bool true ∧ Ext No W w' := by
  have hm := hx0.max
  refine fn_intro tabOk Tryd.func6 (by kernel_rfl) rfl Tryd.ntmps6 (Nat.le_of_ble_eq_true rfl) ?_
  have hS := St.start W No
  (conv => whnf)
  refine (stands_ok _ hE (Nat.le_refl _)).mono ?_
  rintro v w' ⟨rfl, hx⟩
  replace hS := hS.no hx
  repeat' ((conv => whnf); first | refine RetC.mk ?_ | refine brD (fun _ => ?_) (fun _ => ?_) | (refine CallC.mono (role_new _ _ _ (by omega) (by omega) (by omega)) ?_))
  iterate 5 exact ⟨rfl, hS.ext⟩
  rintro v w' ⟨b, rfl, hb, hx, hB⟩
  replace hS := hS.made hx (blk_local _ _ _) hB (by simp [blk]; exact ⟨hb, hB.lt⟩)
  have hb0 := hS.fresh 0 rfl
  (conv => whnf)
  refine loopR tabOk (fun σ w n => ∃ (k : Nat), σ = [(10, .int .i64 k), (8, .pointer (some ⟨b, 0, none⟩)), (2, .slice a0 n0 c0), (1, .int .i64 ep), (0, .int .i64 nd)] ∧ n = n0 - k ∧ k ≤ n0 ∧ St W No w [blk b 96 (encRole ⟨nd, ep, 0, false⟩)])
    (σ' := [(10, .int .i64 ((0 : Nat) : Int)), (8, .pointer (some ⟨b, 0, none⟩)), (2, .slice a0 n0 c0), (1, .int .i64 ep), (0, .int .i64 nd)]) (n := n0) ⟨rfl, rfl, rfl, rfl, rfl, trivial⟩ ⟨0, rfl, rfl, Nat.zero_le _, hS⟩ ?_
  clear hS
  rintro _ w n ⟨k, rfl, rfl, hk, hS⟩
  (conv => whnf)
  refine brD (fun h3 => ?_) (fun h3 => ?_)
  · have hk3 : k < n0 := by omega
    obtain ⟨b0, o0, f, _, _, rfl, hf⟩ := hx0.at1 hk3
    have hf := hf 0 _ rfl
    repeat' ((conv => whnf); first | refine IdxC.mk (by omega) (by omega) ?_ | refine RngC.mk (by omega) (by omega) ?_ | refine hS.ldr hf id ?_ | refine brD (fun _ => ?_) (fun _ => ?_))
    · refine LoopE.mk ⟨_, [(10, .int .i64 ((k + 1 : Nat) : Int)), (8, _), (2, _), (1, _), (0, _)], ?_, ⟨rfl, rfl, rfl, rfl, rfl, trivial⟩, ⟨k + 1, rfl, rfl, by omega, hS⟩⟩
      omega
    · refine LoopE.mk ⟨_, [(10, .int .i64 ((k + 1 : Nat) : Int)), (8, _), (2, _), (1, _), (0, _)], ?_, ⟨rfl, rfl, rfl, rfl, rfl, trivial⟩, ⟨k + 1, rfl, rfl, by omega, hS⟩⟩
      omega
    · refine loopR tabOk (fun σ w n => ∃ (j : Nat), σ = [(11, .int .i64 j), (10, .int .i64 k), (8, .pointer (some ⟨b, 0, none⟩)), (2, .slice (some ⟨b0, o0, none⟩) n0 c0), (1, .int .i64 ep), (0, .int .i64 nd)] ∧ n = f.toNat - j ∧ (j : Int) ≤ f ∧ St W No w [blk b 96 (encRole ⟨nd, ep, j, false⟩)])
        (σ' := [(11, .int .i64 ((0 : Nat) : Int)), (10, .int .i64 k), (8, .pointer (some ⟨b, 0, none⟩)), (2, .slice (some ⟨b0, o0, none⟩) n0 c0), (1, .int .i64 ep), (0, .int .i64 nd)]) (n := f.toNat) ⟨rfl, rfl, rfl, rfl, rfl, rfl, trivial⟩ ⟨0, rfl, rfl, by omega, hS⟩ ?_
      clear hS
      rintro _ w n ⟨j, rfl, rfl, hj, hS⟩
      (conv => whnf)
      refine IdxC.mk (by omega) (by omega) ?_
      (conv => whnf)
      refine hS.ldr hf id ?_
      (conv => whnf)
      refine brD (fun h4 => ?_) (fun h4 => ?_)
      · (conv => whnf)
        refine (role_tick (hS.blk 0 rfl) ⟨by show nd = 0 ∨ nd = 1; omega, by show 0 ≤ ep; omega, by show ep ≤ _; omega, by show (0 : Int) ≤ j; omega, by show (j : Int) ≤ _; omega⟩).mono ?_
        rw [show RoleS.tick ⟨nd, ep, j, false⟩ = (false, ⟨nd, ep, (j + 1 : Nat), false⟩) by simp [RoleS.tick]; omega]
        rintro v w' ⟨rfl, hx, hB⟩
        replace hS := hS.upd 0 rfl hx (fun c hc => by subst hc; exact List.mem_singleton.2 rfl) (blk_local _ _ _) hB (fun c hc => .inl hc)
        (conv => whnf)
        refine RngC.mk (by omega) (by omega) ?_
        (conv => whnf)
        refine LoopE.mk ⟨_, [(11, .int .i64 ((j + 1 : Nat) : Int)), (10, _), (8, _), (2, _), (1, _), (0, _)], ?_, ⟨rfl, rfl, rfl, rfl, rfl, rfl, trivial⟩, ⟨j + 1, rfl, rfl, by omega, hS⟩⟩
        omega
      · (conv => whnf)
        refine (role_hear ep (hS.blk 0 rfl)).mono ?_
        rw [show RoleS.hear ⟨nd, ep, j, false⟩ ep = (false, ⟨nd, ep, 0, false⟩) by unfold RoleS.hear; simp; intro h; omega]
        rintro v w' ⟨rfl, hx, hB⟩
        replace hS := hS.upd 0 rfl hx (fun c hc => by subst hc; exact List.mem_singleton.2 rfl) (blk_local _ _ _) hB (fun c hc => .inl hc)
        (conv => whnf)
        refine RngC.mk (by omega) (by omega) ?_
        (conv => whnf)
        refine LoopE.mk ⟨_, [(10, .int .i64 ((k + 1 : Nat) : Int)), (8, _), (2, _), (1, _), (0, _)], ?_, ⟨rfl, rfl, rfl, rfl, rfl, trivial⟩, ⟨k + 1, rfl, rfl, by omega, hS⟩⟩
        omega
  · (conv => whnf)
    refine loopR tabOk (fun σ w n => ∃ (j : Nat), σ = [(12, .int .i64 j), (8, .pointer (some ⟨b, 0, none⟩))] ∧ n = 9 - j ∧ j ≤ 9 ∧ St W No w [blk b 96 (encRole ⟨nd, ep, j, false⟩)])
      (σ' := [(12, .int .i64 ((0 : Nat) : Int)), (8, .pointer (some ⟨b, 0, none⟩))]) (n := 9) ⟨rfl, rfl, trivial⟩ ⟨0, rfl, rfl, by omega, hS⟩ ?_
    clear hS
    rintro _ w n ⟨j, rfl, rfl, hj, hS⟩
    (conv => whnf)
    refine brD (fun h4 => ?_) (fun h4 => ?_)
    · (conv => whnf)
      refine (role_tick (hS.blk 0 rfl) ⟨by show nd = 0 ∨ nd = 1; omega, by show 0 ≤ ep; omega, by show ep ≤ _; omega, by show (0 : Int) ≤ j; omega, by show (j : Int) ≤ _; omega⟩).mono ?_
      rw [show RoleS.tick ⟨nd, ep, j, false⟩ = (false, ⟨nd, ep, (j + 1 : Nat), false⟩) by simp [RoleS.tick]; omega]
      rintro v w' ⟨rfl, hx, hB⟩
      replace hS := hS.upd 0 rfl hx (fun c hc => by subst hc; exact List.mem_singleton.2 rfl) (blk_local _ _ _) hB (fun c hc => .inl hc)
      (conv => whnf)
      refine RngC.mk (by omega) (by omega) ?_
      (conv => whnf)
      refine LoopE.mk ⟨_, [(12, .int .i64 ((j + 1 : Nat) : Int)), (8, _)], ?_, ⟨rfl, rfl, trivial⟩, ⟨j + 1, rfl, rfl, by omega, hS⟩⟩
      omega
    · obtain rfl : j = 9 := by omega
      (conv => whnf)
      refine (role_tick (hS.blk 0 rfl) ⟨by show nd = 0 ∨ nd = 1; omega, by show 0 ≤ ep; omega, by show ep ≤ _; omega, by show (0 : Int) ≤ 9; decide, by show (9 : Int) ≤ _; decide⟩).mono ?_
      rw [show RoleS.tick ⟨nd, ep, (9 : Nat), false⟩ = (true, ⟨nd, ep, 10, false⟩) by rfl]
      rintro v w' ⟨rfl, hx, hB⟩
      replace hS := hS.upd 0 rfl hx (fun c hc => by subst hc; exact List.mem_singleton.2 rfl) (blk_local _ _ _) hB (fun c hc => .inl hc)
      (conv => whnf)
      refine (role_active (hS.blk 0 rfl)).mono ?_
      rintro v w' ⟨rfl, rfl⟩
      repeat' ((conv => whnf); first | refine RetC.mk ?_ | refine NzC.mk (by decide) ?_ | refine RngC.mk (by omega) (by omega) ?_ | refine IdxC.mk (by omega) (by omega) ?_ | refine brD (fun _ => ?_) (fun _ => ?_) | refine brND (fun _ => ?_) (fun _ => ?_) | refine brN (fun _ => ?_) (fun _ => ?_) | refine brI (fun _ => ?_) (fun _ => ?_))
      exact ⟨rfl, hS.ext⟩

theorem roleSilence_walk {E : Nat → Addr} (W : World) (args : List Value) (hE : Errs W E W.heap.size [2, 3, 11]) (ha : ArgsOk Tryd.prog W [3, 3, 22] args) :
    CallC Tryd.prog 6 args.toArray W fun v w' => v = .bool true ∧ Ext No W w' := by
  obtain ⟨v0, args, rfl, h0, ha⟩ := ha.cons
  obtain ⟨v1, args, rfl, h1, ha⟩ := ha.cons
  obtain ⟨v2, args, rfl, h2, ha⟩ := ha.cons
  obtain rfl := ha.nil
  obtain ⟨x0, rfl, _⟩ := arg_int Tryd.underlying3 h0
  obtain ⟨x1, rfl, _⟩ := arg_int Tryd.underlying3 h1
  obtain ⟨a0, n0, c0, xs, rfl, hx, _⟩ := arg_slice (d := 1) (sz := 1) Tryd.underlying22 (by kernel_rfl) (by decide) (dec_int (d := 0) Tryd.underlying3) h2
  exact roleSilence_ok W hE x0 x1 a0 n0 c0 xs (hx.mono fun _ _ => trivial)
end Go.Proofs.YtnpfaghfcbbmdaaDoor
