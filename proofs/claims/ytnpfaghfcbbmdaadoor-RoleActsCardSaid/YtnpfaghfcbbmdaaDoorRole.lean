/-
  Package role, walked.
-/
import Derived.Test.YtnpfaghfcbbmdaaDoorErr
namespace Go.Proofs.YtnpfaghfcbbmdaaDoor
open Go Ev

structure RoleS where
  node : Int
  epoch : Int
  silence : Int
  active : Bool

def encRole (r : RoleS) : List Value := [.int .i64 r.node, .int .i64 r.epoch, .int .i64 r.silence, .bool r.active]

structure RoleS.Ok (r : RoleS) : Prop where
  n0 : r.node = 0 ∨ r.node = 1
  e0 : 0 ≤ r.epoch
  e1 : r.epoch ≤ 1073741824
  s0 : 0 ≤ r.silence
  s1 : r.silence ≤ 1000000000000

def RoleS.next (r : RoleS) : Int × Nat :=
  let e := if (r.epoch + 1).tmod 2 ≠ r.node then r.epoch + 1 + 1 else r.epoch + 1
  if e > 1073741824 then (0, 2) else (e, 0)
def RoleS.tick (r : RoleS) : Bool × RoleS := if r.active then (false, r) else (decide (r.silence + 1 > 9), { r with silence := r.silence + 1 })
def RoleS.claim (r : RoleS) (e : Int) : Nat × RoleS :=
  if r.active then (11, r) else if r.next.2 ≠ 0 then (r.next.2, r) else if r.next.1 ≠ e then (3, r) else (0, { r with active := true, epoch := e })
def RoleS.hear (r : RoleS) (e : Int) : Bool × RoleS :=
  if e < 0 ∨ e > 1073741824 then (false, r) else
  let d := if e > r.epoch then r.active else false
  let r1 := if e > r.epoch then { r with epoch := e, active := false } else r
  (d, if r1.active = false ∧ e = r1.epoch then { r1 with silence := 0 } else r1)

section
variable {w : World} {b : Nat} {r : RoleS}

theorem role_active (hb : Blk w b 96 (encRole r)) : CallC Tryd.prog 23 #[.pointer (some ⟨b, 0, none⟩)] w fun v w' => v = .bool r.active ∧ w = w' := by
  refine fn_intro tabOk Tryd.func23 (by kernel_rfl) rfl Tryd.ntmps23 (Nat.le_of_ble_eq_true rfl) ?_
  have hS := (St.start w (· = b)).add (blk_local b _ _) hb (by simp [blk]; exact hb.lt) (by simp)
  repeat' ((conv => whnf); first | refine RetC.mk ?_ | refine NzC.mk (by decide) ?_ | refine RngC.mk (by omega) (by omega) ?_ | refine IdxC.mk (by omega) (by omega) ?_ | refine hS.ld 0 rfl rfl ?_ | refine brD (fun _ => ?_) (fun _ => ?_) | refine brND (fun _ => ?_) (fun _ => ?_) | refine brN (fun _ => ?_) (fun _ => ?_) | refine brI (fun _ => ?_) (fun _ => ?_))
  exact ⟨rfl, rfl⟩

theorem role_epoch (hb : Blk w b 96 (encRole r)) : CallC Tryd.prog 26 #[.pointer (some ⟨b, 0, none⟩)] w fun v w' => v = .int .i64 r.epoch ∧ w = w' := by
  refine fn_intro tabOk Tryd.func26 (by kernel_rfl) rfl Tryd.ntmps26 (Nat.le_of_ble_eq_true rfl) ?_
  have hS := (St.start w (· = b)).add (blk_local b _ _) hb (by simp [blk]; exact hb.lt) (by simp)
  repeat' ((conv => whnf); first | refine RetC.mk ?_ | refine NzC.mk (by decide) ?_ | refine RngC.mk (by omega) (by omega) ?_ | refine IdxC.mk (by omega) (by omega) ?_ | refine hS.ld 0 rfl rfl ?_ | refine brD (fun _ => ?_) (fun _ => ?_) | refine brND (fun _ => ?_) (fun _ => ?_) | refine brN (fun _ => ?_) (fun _ => ?_) | refine brI (fun _ => ?_) (fun _ => ?_))
  exact ⟨rfl, rfl⟩

theorem role_tick (hb : Blk w b 96 (encRole r)) (hr : r.Ok) : CallC Tryd.prog 27 #[.pointer (some ⟨b, 0, none⟩)] w fun v w' => v = .bool r.tick.1 ∧ Ext (· = b) w w' ∧ Blk w' b 96 (encRole r.tick.2) := by
  have h1 := hr.s1
  have h0 := hr.s0
  refine fn_intro tabOk Tryd.func27 (by kernel_rfl) rfl Tryd.ntmps27 (Nat.le_of_ble_eq_true rfl) ?_
  have hS := (St.start w (· = b)).add (blk_local b _ _) hb (by simp [blk]; exact hb.lt) (by simp)
  (conv => whnf)
  refine hS.ld 0 rfl rfl ?_
  (conv => whnf)
  refine brI (fun ha => ?_) (fun ha => ?_)
  · repeat' ((conv => whnf); first | refine RetC.mk ?_ | refine NzC.mk (by decide) ?_ | refine RngC.mk (by omega) (by omega) ?_ | refine IdxC.mk (by omega) (by omega) ?_ | refine brD (fun _ => ?_) (fun _ => ?_) | refine brND (fun _ => ?_) (fun _ => ?_) | refine brN (fun _ => ?_) (fun _ => ?_) | refine brI (fun _ => ?_) (fun _ => ?_))
    have e : r.tick = (false, r) := by simp [RoleS.tick, ha]
    rw [e]
    exact ⟨rfl, hS.ext, hS.blk 0 rfl⟩
  · repeat' ((conv => whnf); first | refine RetC.mk ?_ | refine NzC.mk (by decide) ?_ | refine RngC.mk (by omega) (by omega) ?_ | refine IdxC.mk (by omega) (by omega) ?_ | refine hS.ld 0 rfl rfl ?_ | refine hS.st 0 rfl (Nat.le_of_ble_eq_true rfl) rfl (fun w' hS => ?_) | refine brD (fun _ => ?_) (fun _ => ?_) | refine brND (fun _ => ?_) (fun _ => ?_) | refine brN (fun _ => ?_) (fun _ => ?_) | refine brI (fun _ => ?_) (fun _ => ?_))
    have e : r.tick = (decide (r.silence + 1 > 9), { r with silence := r.silence + 1 }) := by simp [RoleS.tick, ha]
    rw [e]
    exact ⟨rfl, hS.ext, hS.blk 0 rfl⟩

theorem tmod2 {x : Int} (h : 0 ≤ x) : x.tmod 2 = x % 2 := Int.tmod_eq_emod_of_nonneg h

theorem role_next {E : Nat → Addr} (hb : Blk w b 96 (encRole r)) (hr : r.Ok) {n : Nat} (hE : Errs w E n [2]) :
    CallC Tryd.prog 22 #[.pointer (some ⟨b, 0, none⟩)] w fun v w' => v = .tuple #[.int .i64 r.next.1, errV E r.next.2] ∧ Ext No w w' := by
  have h1 := hr.e1
  have h0 := hr.e0
  refine fn_intro tabOk Tryd.func22 (by kernel_rfl) rfl Tryd.ntmps22 (Nat.le_of_ble_eq_true rfl) ?_
  have hS := St.start w No
  repeat' ((conv => whnf); first | refine hS.ldr (show w.cell? ⟨b, 0 + 0, none⟩ = _ from hb.cell _) id ?_ | refine hS.ldr (show w.cell? ⟨b, 0 + 1, none⟩ = _ from hb.cell _) id ?_ | (refine drawS tabOk mixed [] No [0, 1, 2] (by kernel_rfl) ?_; rintro w1 rfl; replace hS := hS.drew) | refine hS.ldrF (hE.at_ 2 rfl) id id ?_ | refine RetC.mk ?_ | refine NzC.mk (by decide) ?_ | refine RngC.mk (by omega) (by omega) ?_ | refine brD (fun _ => ?_) (fun _ => ?_) | refine brND (fun _ => ?_) (fun _ => ?_))
  all_goals refine ⟨?_, hS.ext⟩
  all_goals clear hb hE hS
  all_goals unfold RoleS.next; dsimp only
  all_goals ((repeat' split) <;> first | rfl | (exfalso; omega) | (simp_all [over, cellsL]; done) | (simp_all [over, cellsL]; omega) | trace_state)

theorem role_claim {E : Nat → Addr} (e : Int) (hb : Blk w b 96 (encRole r)) (hr : r.Ok) {n : Nat} (hE : Errs w E n [2, 3, 11]) (hn : n ≤ b) :
    CallC Tryd.prog 24 #[.pointer (some ⟨b, 0, none⟩), .int .i64 e] w fun v w' => v = errV E (r.claim e).1 ∧ Ext (· = b) w w' ∧ Blk w' b 96 (encRole (r.claim e).2) := by
  refine fn_intro tabOk Tryd.func24 (by kernel_rfl) rfl Tryd.ntmps24 (Nat.le_of_ble_eq_true rfl) ?_
  have hS := (St.start w (· = b)).add (blk_local b _ _) hb (by simp [blk]; exact hb.lt) (by simp)
  (conv => whnf)
  have g2 := hE.lt 2 rfl
  have g3 := hE.lt 3 rfl
  have g11 := hE.lt 11 rfl
  simp only [gErr] at g2 g3 g11
  refine (role_next hb hr (hE.sub rfl)).mono ?_
  rintro v w' ⟨rfl, hx⟩
  replace hS := hS.no hx
  obtain ⟨x, k, hk, hk2⟩ : ∃ x k, r.next = (x, k) ∧ (k = 0 ∨ k = 2) := by
    refine ⟨r.next.1, r.next.2, rfl, ?_⟩
    unfold RoleS.next
    dsimp only
    split <;> split <;> simp
  rw [hk]
  rcases hk2 with rfl | rfl
  all_goals repeat' ((conv => whnf); first | refine RetC.mk ?_ | refine NzC.mk (by decide) ?_ | refine RngC.mk (by omega) (by omega) ?_ | refine IdxC.mk (by omega) (by omega) ?_ | refine hS.ld 0 rfl rfl ?_ | refine hS.ldr (hE.at_ 2 rfl) (hE.ne 2 rfl hn) ?_ | refine hS.ldr (hE.at_ 3 rfl) (hE.ne 3 rfl hn) ?_ | refine hS.ldr (hE.at_ 11 rfl) (hE.ne 11 rfl hn) ?_ | refine hS.st 0 rfl (Nat.le_of_ble_eq_true rfl) rfl (fun w' hS => ?_) | refine brD (fun _ => ?_) (fun _ => ?_) | refine brND (fun _ => ?_) (fun _ => ?_) | refine brN (fun _ => ?_) (fun _ => ?_) | refine brI (fun _ => ?_) (fun _ => ?_))
  all_goals have hB := hS.blk 0 rfl
  all_goals refine ⟨?_, hS.ext, hB.to ?_⟩
  all_goals clear hB hS
  all_goals unfold RoleS.claim; rw [hk]; dsimp only [encRole]
  all_goals ((repeat' split) <;> first | rfl | (exfalso; omega) | (simp_all [over, cellsL]; done) | (simp_all [over, cellsL]; omega) | trace_state)

theorem role_hear (e : Int) (hb : Blk w b 96 (encRole r)) : CallC Tryd.prog 25 #[.pointer (some ⟨b, 0, none⟩), .int .i64 e] w fun v w' => v = .bool (r.hear e).1 ∧ Ext (· = b) w w' ∧ Blk w' b 96 (encRole (r.hear e).2) := by
  refine fn_intro tabOk Tryd.func25 (by kernel_rfl) rfl Tryd.ntmps25 (Nat.le_of_ble_eq_true rfl) ?_
  have hS := (St.start w (· = b)).add (blk_local b _ _) hb (by simp [blk]; exact hb.lt) (by simp)
  repeat' ((conv => whnf); first | refine RetC.mk ?_ | refine NzC.mk (by decide) ?_ | refine RngC.mk (by omega) (by omega) ?_ | refine IdxC.mk (by omega) (by omega) ?_ | refine hS.ld 0 rfl rfl ?_ | refine hS.st 0 rfl (Nat.le_of_ble_eq_true rfl) rfl (fun w' hS => ?_) | refine brD (fun _ => ?_) (fun _ => ?_) | refine brND (fun _ => ?_) (fun _ => ?_) | refine brN (fun _ => ?_) (fun _ => ?_) | refine brI (fun _ => ?_) (fun _ => ?_))
  all_goals have hB := hS.blk 0 rfl
  all_goals refine ⟨?_, hS.ext, hB.to ?_⟩
  all_goals clear hB hS hb
  all_goals unfold RoleS.hear; dsimp only [encRole]
  all_goals ((repeat' split) <;> first | rfl | (exfalso; omega) | (simp_all [over, cellsL]; done) | (simp_all [over, cellsL]; omega) | trace_state)

theorem role_new (a e : Int) (w : World) (ha : a = 0 ∨ a = 1) (h0 : 0 ≤ e) (h1 : e ≤ 1073741824) : CallC Tryd.prog 21 #[.int .i64 a, .int .i64 e] w fun v w' =>
    ∃ b, v = .tuple #[.pointer (some ⟨b, 0, none⟩), .nilIface] ∧ w.heap.size ≤ b ∧ Ext No w w' ∧ Blk w' b 96 (encRole ⟨a, e, 0, false⟩) := by
  refine fn_intro tabOk Tryd.func21 (by kernel_rfl) rfl Tryd.ntmps21 (Nat.le_of_ble_eq_true rfl) ?_
  have hS := St.start w No
  repeat' ((conv => whnf); first | refine hS.new (fun b w' hb hS => ?_) | refine RetC.mk ?_ | refine brD (fun _ => ?_) (fun _ => ?_) | refine brND (fun _ => ?_) (fun _ => ?_))
  all_goals first | (exfalso; omega) | exact ⟨_, rfl, hb, hS.ext, hS.blk 0 rfl⟩

theorem role_new_bad {E : Nat → Addr} {n : Nat} (a e : Int) (w : World) (h : ¬ ((a = 0 ∨ a = 1) ∧ 0 ≤ e ∧ e ≤ 1073741824)) (hE : Errs w E n [2]) : CallC Tryd.prog 21 #[.int .i64 a, .int .i64 e] w fun v w' =>
    v = .tuple #[.pointer none, errV E 2] ∧ Ext No w w' := by
  refine fn_intro tabOk Tryd.func21 (by kernel_rfl) rfl Tryd.ntmps21 (Nat.le_of_ble_eq_true rfl) ?_
  have hS := St.start w No
  repeat' ((conv => whnf); first | (refine drawS tabOk mixed [] No [0, 1, 2] (by kernel_rfl) ?_; rintro w1 rfl; replace hS := hS.drew) | refine hS.ldrF (hE.at_ 2 rfl) id id ?_ | refine hS.new (fun b w' hb hS => ?_) | refine RetC.mk ?_ | refine brD (fun _ => ?_) (fun _ => ?_) | refine brND (fun _ => ?_) (fun _ => ?_))
  all_goals first | (exfalso; omega) | exact ⟨rfl, hS.ext⟩

/-- What the laws of this package ask first. -/
theorem stands_ok {E : Nat → Addr} {n : Nat} (w : World) (hE : Errs w E n [2, 3, 11]) (hn : n ≤ w.heap.size) : CallC Tryd.prog 20 #[] w fun v w' => v = .bool true ∧ Ext No w w' := by
  refine fn_intro tabOk Tryd.func20 (by kernel_rfl) rfl Tryd.ntmps20 (Nat.le_of_ble_eq_true rfl) ?_
  have hS := St.start w No
  (conv => whnf)
  refine (role_new 1 6 w (by decide) (by decide) (by decide)).mono ?_
  rintro v w' ⟨b, rfl, hb, hx, hB⟩
  replace hS := hS.made hx (blk_local b _ _) hB (by simp [blk]; exact ⟨hb, hB.lt⟩)
  have hE := hE.ext hx (fun _ h => h.elim)
  (conv => whnf)
  refine (role_active (hS.blk 0 rfl)).mono ?_
  rintro v w' ⟨rfl, rfl⟩
  (conv => whnf)
  refine (role_next (hS.blk 0 rfl) ⟨by decide, by decide, by decide, by decide, by decide⟩ (hE.sub rfl)).mono ?_
  rintro v w' ⟨rfl, hx⟩
  replace hS := hS.no hx
  replace hE := hE.ext hx (fun _ h => h.elim)
  rw [show RoleS.next ⟨1, 6, 0, false⟩ = (7, 0) by decide]
  (conv => whnf)
  refine (role_claim 7 (hS.blk 0 rfl) ⟨by decide, by decide, by decide, by decide, by decide⟩ hE (by omega)).mono ?_
  rw [show RoleS.claim ⟨1, 6, 0, false⟩ 7 = (0, ⟨1, 7, 0, true⟩) by rfl]
  rintro v w' ⟨rfl, hx, hB⟩
  replace hS := hS.upd 0 rfl hx (fun c hc => by subst hc; exact List.mem_singleton.2 rfl) (blk_local _ _ _) hB (fun c hc => .inl hc)
  (conv => whnf)
  refine (role_active (hS.blk 0 rfl)).mono ?_
  rintro v w' ⟨rfl, rfl⟩
  (conv => whnf)
  refine (role_epoch (hS.blk 0 rfl)).mono ?_
  rintro v w' ⟨rfl, rfl⟩
  repeat' ((conv => whnf); first | refine RetC.mk ?_ | refine NzC.mk (by decide) ?_ | refine RngC.mk (by omega) (by omega) ?_ | refine IdxC.mk (by omega) (by omega) ?_ | refine brD (fun _ => ?_) (fun _ => ?_) | refine brND (fun _ => ?_) (fun _ => ?_) | refine brN (fun _ => ?_) (fun _ => ?_) | refine brI (fun _ => ?_) (fun _ => ?_))
  exact ⟨rfl, hS.ext⟩
end
end Go.Proofs.YtnpfaghfcbbmdaaDoor
