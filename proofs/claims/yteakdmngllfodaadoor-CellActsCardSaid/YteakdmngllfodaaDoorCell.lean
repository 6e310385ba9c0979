
/-
  Package cell, walked: a cell is written, put, opened.
-/
import Derived.Test.YteakdmngllfodaaDoorByt
namespace Go.Proofs.YteakdmngllfodaaDoor
open Go Ev

structure BOk (B : BytS) : Prop where
  len : B.data.length = 64
  lo : -1 ≤ B.left
  hi : B.left ≤ 9223372036854775807
theorem BOk.write : ∀ (s : List UInt8) {B : BytS} (p : Nat), BOk B → BOk (B.write p s).2
  | [], _, _, h => h
  | x :: r, B, p, h => by
    rw [write_cons]
    split
    · exact ⟨h.len, h.lo, h.hi⟩
    · refine BOk.write r (p + 1) ⟨by rw [List.length_set]; exact h.len, ?_, ?_⟩
      all_goals have := h.lo
      all_goals have := h.hi
      all_goals dsimp only
      all_goals split <;> omega

def mark (B : BytS) (p : Nat) : Bool × BytS := match B.data[p]? with
  | some x => if x = 0 then (true, B) else B.write p [0]
  | none => (true, B)
def cwrite (B : BytS) (n e l : Nat) : Bool × BytS :=
  if B.off = true then (false, B) else
  if (mark B (n % 2 * 20 + 16)).1 = true then
    if ((mark B (n % 2 * 20 + 16)).2.write (n % 2 * 20) (bodyB n e l)).1 = true then ((mark B (n % 2 * 20 + 16)).2.write (n % 2 * 20) (bodyB n e l)).2.write (n % 2 * 20 + 16) [165]
    else (false, ((mark B (n % 2 * 20 + 16)).2.write (n % 2 * 20) (bodyB n e l)).2)
  else (false, (mark B (n % 2 * 20 + 16)).2)
theorem BOk.mark {B : BytS} (p : Nat) (h : BOk B) : BOk (mark B p).2 := by
  unfold Proofs.YteakdmngllfodaaDoor.mark
  split
  · split
    · exact h
    · exact h.write _ _
  · exact h
theorem BOk.cwrite {B : BytS} (n e l : Nat) (h : BOk B) : BOk (cwrite B n e l).2 := by
  unfold Proofs.YteakdmngllfodaaDoor.cwrite
  split
  · exact h
  · split
    · split
      · exact BOk.write _ _ (BOk.write _ _ (h.mark _))
      · exact BOk.write _ _ (h.mark _)
    · exact h.mark _

structure CelS where
  num : Nat
  ep : Nat
  li : Nat
  dead : Bool
deriving DecidableEq
def encCl (b : Nat) (C : CelS) : List Value := [.pointer (some ⟨b, 0, none⟩), .int .i64 (C.num : Int), .int .i64 (C.ep : Int), .int .i64 (C.li : Int), .bool C.dead]

section
variable {w : World} {b c : Nat} {B : BytS} {C : CelS}
theorem cepoch_ok (hC : Blk w c 126 (encCl b C)) : CallC Tryd.prog 51 #[.pointer (some ⟨c, 0, none⟩)] w fun v w' => v = .int .i64 (C.ep : Int) ∧ Ext No w w' := by
  refine fn_intro tabOk Tryd.func51 (by kernel_rfl) rfl Tryd.ntmps51 (Nat.le_of_ble_eq_true rfl) ?_
  have hS := St.start w No
  (conv => whnf)
  refine ldc (hC.cell 2) ?_
  repeat' ((conv => whnf); first | refine RetC.mk ?_ | refine NzC.mk (by decide) ?_ | refine RngC.mk (by omega) (by omega) ?_ | refine IdxC.mk (by omega) (by omega) ?_ | refine brD (fun _ => ?_) (fun _ => ?_) | refine brND (fun _ => ?_) (fun _ => ?_) | refine brN (fun _ => ?_) (fun _ => ?_) | refine brI (fun _ => ?_) (fun _ => ?_))
  exact ⟨rfl, hS.ext⟩
theorem clife_ok (hC : Blk w c 126 (encCl b C)) : CallC Tryd.prog 52 #[.pointer (some ⟨c, 0, none⟩)] w fun v w' => v = .int .i64 (C.li : Int) ∧ Ext No w w' := by
  refine fn_intro tabOk Tryd.func52 (by kernel_rfl) rfl Tryd.ntmps52 (Nat.le_of_ble_eq_true rfl) ?_
  have hS := St.start w No
  (conv => whnf)
  refine ldc (hC.cell 3) ?_
  repeat' ((conv => whnf); first | refine RetC.mk ?_ | refine NzC.mk (by decide) ?_ | refine RngC.mk (by omega) (by omega) ?_ | refine IdxC.mk (by omega) (by omega) ?_ | refine brD (fun _ => ?_) (fun _ => ?_) | refine brND (fun _ => ?_) (fun _ => ?_) | refine brN (fun _ => ?_) (fun _ => ?_) | refine brI (fun _ => ?_) (fun _ => ?_))
  exact ⟨rfl, hS.ext⟩

theorem cwrite_ok {E : Nat → Addr} {q : Nat} (n e l : Nat) (hn : n < 9223372036854775808) (he : e < 9223372036854775808) (hl : l < 9223372036854775808) (hC : Blk w c 126 (encCl b C)) (hB : Blk w b 124 (encBy B)) (hO : BOk B) (hE : Errs w E q [7]) (hq : q ≤ b) :
    CallC Tryd.prog 80 #[.pointer (some ⟨c, 0, none⟩), .int .i64 (n : Int), .int .i64 (e : Int), .int .i64 (l : Int)] w fun v w' => v = errV E (if (cwrite B n e l).1 = true then 0 else 7) ∧ Ext (· = b) w w' ∧ Blk w' b 124 (encBy (cwrite B n e l).2) := by
  have hcb : ¬ c = b := Blk.ne hC hB (by decide)
  have hmod : (n : Int).tmod 2 = ((n % 2 : Nat) : Int) := by rw [Int.tmod_eq_emod_of_nonneg (by omega)]; omega
  have hn2 : n % 2 < 2 := Nat.mod_lt _ (by omega)
  have hbl := bodyB_len n e l
  unfold cwrite
  refine fn_intro tabOk Tryd.func80 (by kernel_rfl) rfl Tryd.ntmps80 (Nat.le_of_ble_eq_true rfl) ?_
  have hb := hB
  have hS := (St.start w (· = b)).add (blk_local b _ _) hb (by simp [blk]; exact hb.lt) (by simp)
  have h20 : (n : Int).tmod 2 * 20 = ((n % 2 * 20 : Nat) : Int) := by rw [hmod]; omega
  have h36 : n % 2 * 20 ≤ 20 := by omega
  generalize n % 2 * 20 = p at h20 h36
  repeat' ((conv => whnf); first | refine RetC.mk ?_ | refine NzC.mk (by decide) ?_ | refine RngC.mk (by omega) (by omega) ?_ | refine IdxC.mk (by omega) (by omega) ?_ | refine RngC.mk (by omega) (by omega) ?_ | refine brD (fun _ => ?_) (fun _ => ?_) | refine brND (fun _ => ?_) (fun _ => ?_) | refine brN (fun _ => ?_) (fun _ => ?_) | refine brI (fun _ => ?_) (fun _ => ?_))
  rw [h20]
  (conv => whnf)
  refine hS.ldr (hC.cell 0) hcb ?_
  (conv => whnf)
  refine hS.ld 0 rfl (by_off hO.len) ?_
  cases hoff : B.off
  · rw [if_neg Bool.false_ne_true]
    (conv => whnf)
    refine hS.ldr (hC.cell 0) hcb ?_
    (conv => whnf)
    refine RngC.mk (by omega) (by omega) ?_
    (conv => whnf)
    refine IdxC.mk (by omega) (by omega) ?_
    obtain ⟨x, hx⟩ : ∃ x, B.data[p + 16]? = some x := ⟨_, List.getElem?_eq_getElem (by have := hO.len; omega)⟩
    have hmk : mark B (p + 16) = if x = 0 then (true, B) else B.write (p + 16) [0] := by unfold mark; rw [hx]
    (conv => whnf)
    refine hS.ld 0 rfl (o := 0 + 0 + ((p : Int) + 16).toNat * 1) (by rw [show 0 + 0 + ((p : Int) + 16).toNat * 1 = p + 16 by omega]; exact by_at hx) ?_
    (conv => whnf)
    refine neC ?_
    (conv => whnf)
    refine brND (fun h1 => ?_) (fun h1 => ?_)
    · rw [if_neg (by rintro rfl; exact h1 rfl)] at hmk
      rw [hmk]
      have hO1 := hO.write [0] (p + 16)
      (conv => whnf)
      refine hS.ldr (hC.cell 0) hcb ?_
      (conv => whnf)
      refine RngC.mk (by omega) (by omega) ?_
      (conv => whnf)
      refine (bwrite_ok (p + 16) [0] (by simp; omega) (hS.blk 0 rfl) hO.len ⟨hO.lo, hO.hi⟩ (hE.ext hS.ext fun k hk => by subst hk; exact hq) hq).mono ?_
      rintro v w' ⟨rfl, hx', hB⟩
      replace hS := hS.upd 0 rfl hx' (fun c hc => by subst hc; exact List.mem_singleton.2 rfl) (blk_local _ _ _) hB (fun c hc => .inl hc)
      clear hx' hB
      generalize B.write (p + 16) [0] = R at hS hO1
      obtain ⟨ok, B1⟩ := R
      cases ok
      · repeat' ((conv => whnf); first | refine RetC.mk ?_ | refine NzC.mk (by decide) ?_ | refine RngC.mk (by omega) (by omega) ?_ | refine IdxC.mk (by omega) (by omega) ?_ | refine brD (fun _ => ?_) (fun _ => ?_) | refine brND (fun _ => ?_) (fun _ => ?_) | refine brN (fun _ => ?_) (fun _ => ?_) | refine brI (fun _ => ?_) (fun _ => ?_))
        exact ⟨rfl, hS.ext, hS.blk 0 rfl⟩
      · rw [if_pos rfl]
        (conv => whnf)
        have hO2 := BOk.write (bodyB n e l) p hO1
        (refine drawS tabOk mixed [] ((· = b)) [0, 1, 2, 3, 4, 5, 6, 7, 8, 9, 10] (by kernel_rfl) ?_; rintro w1 rfl; replace hS := hS.drew)
        repeat' ((conv => whnf); first | refine RetC.mk ?_ | refine NzC.mk (by decide) ?_ | refine RngC.mk (by omega) (by omega) ?_ | refine IdxC.mk (by omega) (by omega) ?_ | refine hS.ldrF (hC.cell 0) hcb hcb ?_ | refine brD (fun _ => ?_) (fun _ => ?_) | refine brND (fun _ => ?_) (fun _ => ?_) | refine brN (fun _ => ?_) (fun _ => ?_) | refine brI (fun _ => ?_) (fun _ => ?_))
        refine (body_ok n e l hn he hl _).mono ?_
        rintro v w2 ⟨rfl, hx1⟩
        replace hS := hS.no hx1
        refine KeepC.mk hx1.of_no ?_
        (conv => whnf)
        refine (bwrite_ok p (bodyB n e l) (by omega) (hS.blk 0 rfl) hO1.len ⟨hO1.lo, hO1.hi⟩ (hE.ext hS.ext fun k hk => by subst hk; exact hq) hq).mono ?_
        rintro v w' ⟨rfl, hx', hB⟩
        replace hS := hS.upd 0 rfl hx' (fun c hc => by subst hc; exact List.mem_singleton.2 rfl) (blk_local _ _ _) hB (fun c hc => .inl hc)
        refine KeepC.mk (hx1.of_no.trans hx') ?_
        clear hx' hB hx1
        generalize BytS.write B1 p (bodyB n e l) = R at hS hO2 ⊢
        obtain ⟨ok, B2⟩ := R
        cases ok
        · repeat' ((conv => whnf); first | refine RetC.mk ?_ | refine NzC.mk (by decide) ?_ | refine RngC.mk (by omega) (by omega) ?_ | refine IdxC.mk (by omega) (by omega) ?_ | refine brD (fun _ => ?_) (fun _ => ?_) | refine brND (fun _ => ?_) (fun _ => ?_) | refine brN (fun _ => ?_) (fun _ => ?_) | refine brI (fun _ => ?_) (fun _ => ?_))
          exact ⟨rfl, hS.ext, hS.blk 0 rfl⟩
        · rw [if_pos rfl]
          (conv => whnf)
          refine hS.ldr (hC.cell 0) hcb ?_
          (conv => whnf)
          refine RngC.mk (by omega) (by omega) ?_
          (conv => whnf)
          refine (bwrite_ok (p + 16) [165] (by simp; omega) (hS.blk 0 rfl) hO2.len ⟨hO2.lo, hO2.hi⟩ (hE.ext hS.ext fun k hk => by subst hk; exact hq) hq).mono ?_
          rintro v w' ⟨rfl, hx', hB⟩
          replace hS := hS.upd 0 rfl hx' (fun c hc => by subst hc; exact List.mem_singleton.2 rfl) (blk_local _ _ _) hB (fun c hc => .inl hc)
          clear hx' hB
          repeat' ((conv => whnf); first | refine RetC.mk ?_ | refine NzC.mk (by decide) ?_ | refine RngC.mk (by omega) (by omega) ?_ | refine IdxC.mk (by omega) (by omega) ?_ | refine brD (fun _ => ?_) (fun _ => ?_) | refine brND (fun _ => ?_) (fun _ => ?_) | refine brN (fun _ => ?_) (fun _ => ?_) | refine brI (fun _ => ?_) (fun _ => ?_))
          exact ⟨rfl, hS.ext, hS.blk 0 rfl⟩
    · rw [if_pos (by
        have h2 : x.toNat = 0 := by omega
        exact UInt8.toNat_inj.1 h2)] at hmk
      rw [hmk, if_pos rfl]
      (conv => whnf)
      have hO2 := BOk.write (bodyB n e l) p hO
      (refine drawS tabOk mixed [] ((· = b)) [0, 1, 2, 3, 4, 5, 6, 7, 8, 9, 10] (by kernel_rfl) ?_; rintro w1 rfl; replace hS := hS.drew)
      repeat' ((conv => whnf); first | refine RetC.mk ?_ | refine NzC.mk (by decide) ?_ | refine RngC.mk (by omega) (by omega) ?_ | refine IdxC.mk (by omega) (by omega) ?_ | refine hS.ldrF (hC.cell 0) hcb hcb ?_ | refine brD (fun _ => ?_) (fun _ => ?_) | refine brND (fun _ => ?_) (fun _ => ?_) | refine brN (fun _ => ?_) (fun _ => ?_) | refine brI (fun _ => ?_) (fun _ => ?_))
      refine (body_ok n e l hn he hl _).mono ?_
      rintro v w2 ⟨rfl, hx1⟩
      replace hS := hS.no hx1
      refine KeepC.mk hx1.of_no ?_
      (conv => whnf)
      refine (bwrite_ok p (bodyB n e l) (by omega) (hS.blk 0 rfl) hO.len ⟨hO.lo, hO.hi⟩ (hE.ext hS.ext fun k hk => by subst hk; exact hq) hq).mono ?_
      rintro v w' ⟨rfl, hx', hB⟩
      replace hS := hS.upd 0 rfl hx' (fun c hc => by subst hc; exact List.mem_singleton.2 rfl) (blk_local _ _ _) hB (fun c hc => .inl hc)
      refine KeepC.mk (hx1.of_no.trans hx') ?_
      clear hx' hB hx1
      generalize BytS.write B p (bodyB n e l) = R at hS hO2 ⊢
      obtain ⟨ok, B2⟩ := R
      cases ok
      · repeat' ((conv => whnf); first | refine RetC.mk ?_ | refine NzC.mk (by decide) ?_ | refine RngC.mk (by omega) (by omega) ?_ | refine IdxC.mk (by omega) (by omega) ?_ | refine brD (fun _ => ?_) (fun _ => ?_) | refine brND (fun _ => ?_) (fun _ => ?_) | refine brN (fun _ => ?_) (fun _ => ?_) | refine brI (fun _ => ?_) (fun _ => ?_))
        exact ⟨rfl, hS.ext, hS.blk 0 rfl⟩
      · rw [if_pos rfl]
        (conv => whnf)
        refine hS.ldr (hC.cell 0) hcb ?_
        (conv => whnf)
        refine RngC.mk (by omega) (by omega) ?_
        (conv => whnf)
        refine (bwrite_ok (p + 16) [165] (by simp; omega) (hS.blk 0 rfl) hO2.len ⟨hO2.lo, hO2.hi⟩ (hE.ext hS.ext fun k hk => by subst hk; exact hq) hq).mono ?_
        rintro v w' ⟨rfl, hx', hB⟩
        replace hS := hS.upd 0 rfl hx' (fun c hc => by subst hc; exact List.mem_singleton.2 rfl) (blk_local _ _ _) hB (fun c hc => .inl hc)
        clear hx' hB
        repeat' ((conv => whnf); first | refine RetC.mk ?_ | refine NzC.mk (by decide) ?_ | refine RngC.mk (by omega) (by omega) ?_ | refine IdxC.mk (by omega) (by omega) ?_ | refine brD (fun _ => ?_) (fun _ => ?_) | refine brND (fun _ => ?_) (fun _ => ?_) | refine brN (fun _ => ?_) (fun _ => ?_) | refine brI (fun _ => ?_) (fun _ => ?_))
        exact ⟨rfl, hS.ext, hS.blk 0 rfl⟩
  · rw [if_pos rfl]
    repeat' ((conv => whnf); first | refine RetC.mk ?_ | refine NzC.mk (by decide) ?_ | refine RngC.mk (by omega) (by omega) ?_ | refine IdxC.mk (by omega) (by omega) ?_ | refine hS.ldr (hE.at_ 7 rfl) (hE.ne 7 rfl hq) ?_ | refine hS.ldrF (hE.at_ 7 rfl) (hE.ne 7 rfl hq) id ?_ | refine brD (fun _ => ?_) (fun _ => ?_) | refine brND (fun _ => ?_) (fun _ => ?_) | refine brN (fun _ => ?_) (fun _ => ?_) | refine brI (fun _ => ?_) (fun _ => ?_))
    exact ⟨rfl, hS.ext, hS.blk 0 rfl⟩
end
end Go.Proofs.YteakdmngllfodaaDoor
