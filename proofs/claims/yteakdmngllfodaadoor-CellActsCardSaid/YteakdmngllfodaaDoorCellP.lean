
/-
  Package cell, walked: Put, Open.
-/
import Derived.Test.YteakdmngllfodaaDoorCell
namespace Go.Proofs.YteakdmngllfodaaDoor
open Go Ev

def CelS.put (C : CelS) (B : BytS) (e l : Int) : Nat × BytS × CelS :=
  if C.dead = true then (7, B, C) else
  if e < 0 ∨ e > 1073741824 ∨ l < 0 ∨ l > 1073741824 then (2, B, C) else
  if e < C.ep ∨ l < C.li then (10, B, C) else
  if C.num + 1 ≥ 4294967296 then (6, B, C) else
  if (cwrite B (C.num + 1) e.toNat l.toNat).1 = true then (0, (cwrite B (C.num + 1) e.toNat l.toNat).2, ⟨C.num + 1, e.toNat, l.toNat, C.dead⟩)
  else (7, (cwrite B (C.num + 1) e.toNat l.toNat).2, ⟨C.num, C.ep, C.li, true⟩)

/-! ### What the bytes hold -/
def recK (d : List UInt8) (k : Nat) : List UInt8 := (d.drop (k * 20)).take 17
def recN (d : List UInt8) (k : Nat) : Nat := valB ((recK d k).take 4)
def recE (d : List UInt8) (k : Nat) : Nat := valB (((recK d k).drop 4).take 4)
def recL (d : List UInt8) (k : Nat) : Nat := valB (((recK d k).drop 8).take 4)
def fullK (d : List UInt8) (k : Nat) : Prop := 1 ≤ recN d k ∧ recN d k % 2 = k ∧ bodyB (recN d k) (recE d k) (recL d k) ++ [165] = recK d k
instance (d : List UInt8) (k : Nat) : Decidable (fullK d k) := by unfold fullK; infer_instance
def openK (d : List UInt8) (k : Nat) (C : CelS) : CelS := if fullK d k ∧ recN d k > C.num then ⟨recN d k, recE d k, recL d k, C.dead⟩ else C
def openN (d : List UInt8) : Nat → CelS
  | 0 => ⟨0, 0, 0, false⟩
  | k + 1 => openK d k (openN d k)
def openS (d : List UInt8) : CelS := openN d 2
theorem recK_len {d : List UInt8} {k : Nat} (h : d.length = 64) (hk : k < 2) : (recK d k).length = 17 := by
  unfold recK
  rw [List.length_take, List.length_drop]
  omega
theorem val4 {l : List UInt8} (h : l.length ≤ 4) : valB l < 4294967296 := by
  have h1 := valB_lt l
  have h2 : 256 ^ l.length ≤ 256 ^ 4 := Nat.pow_le_pow_right (by omega) h
  omega
theorem recN_lt (d : List UInt8) (k : Nat) : recN d k < 4294967296 := val4 (by rw [List.length_take]; omega)
theorem recE_lt (d : List UInt8) (k : Nat) : recE d k < 4294967296 := val4 (by rw [List.length_take]; omega)
theorem recL_lt (d : List UInt8) (k : Nat) : recL d k < 4294967296 := val4 (by rw [List.length_take]; omega)
theorem openN_lt (d : List UInt8) : ∀ k, (openN d k).num < 4294967296 ∧ (openN d k).ep < 4294967296 ∧ (openN d k).li < 4294967296
  | 0 => by simp [openN]
  | k + 1 => by
    unfold openN openK
    split
    · exact ⟨recN_lt d k, recE_lt d k, recL_lt d k⟩
    · exact openN_lt d k

section
variable {w : World} {b c : Nat} {B : BytS} {C : CelS}
theorem copen_nil {E : Nat → Addr} {n : Nat} (w : World) (hE : Errs w E n [3]) : CallC Tryd.prog 45 #[.pointer none] w fun v w' => v = .tuple #[.pointer none, errV E 3] ∧ Ext No w w' := by
  refine fn_intro tabOk Tryd.func45 (by kernel_rfl) rfl Tryd.ntmps45 (Nat.le_of_ble_eq_true rfl) ?_
  have hS := St.start w No
  repeat' ((conv => whnf); first | refine RetC.mk ?_ | refine NzC.mk (by decide) ?_ | refine RngC.mk (by omega) (by omega) ?_ | refine IdxC.mk (by omega) (by omega) ?_ | refine hS.ldr (hE.at_ 3 rfl) id ?_ | refine hS.ldrF (hE.at_ 3 rfl) id id ?_ | (refine drawS tabOk mixed [] No [0, 1, 2] (by kernel_rfl) ?_; rintro w1 rfl; replace hS := hS.drew) | refine brD (fun _ => ?_) (fun _ => ?_) | refine brND (fun _ => ?_) (fun _ => ?_) | refine brN (fun _ => ?_) (fun _ => ?_) | refine brI (fun _ => ?_) (fun _ => ?_))
  exact ⟨rfl, hS.ext⟩
theorem copen_off {E : Nat → Addr} {n : Nat} (hB : Blk w b 124 (encBy B)) (hl : B.data.length = 64) (ho : B.off = true) (hE : Errs w E n [7]) : CallC Tryd.prog 45 #[.pointer (some ⟨b, 0, none⟩)] w fun v w' => v = .tuple #[.pointer none, errV E 7] ∧ Ext No w w' := by
  refine fn_intro tabOk Tryd.func45 (by kernel_rfl) rfl Tryd.ntmps45 (Nat.le_of_ble_eq_true rfl) ?_
  have hS := St.start w No
  (conv => whnf)
  refine ldc (v := .bool B.off) (by rw [hB.cell]; exact by_off hl) ?_
  rw [ho]
  repeat' ((conv => whnf); first | refine RetC.mk ?_ | refine NzC.mk (by decide) ?_ | refine RngC.mk (by omega) (by omega) ?_ | refine IdxC.mk (by omega) (by omega) ?_ | refine hS.ldr (hE.at_ 7 rfl) id ?_ | refine hS.ldrF (hE.at_ 7 rfl) id id ?_ | (refine drawS tabOk mixed [] No [0, 1, 2] (by kernel_rfl) ?_; rintro w1 rfl; replace hS := hS.drew) | refine brD (fun _ => ?_) (fun _ => ?_) | refine brND (fun _ => ?_) (fun _ => ?_) | refine brN (fun _ => ?_) (fun _ => ?_) | refine brI (fun _ => ?_) (fun _ => ?_))
  exact ⟨rfl, hS.ext⟩
theorem copen_ok (hB : Blk w b 124 (encBy B)) (hl : B.data.length = 64) (ho : B.off = false) : CallC Tryd.prog 45 #[.pointer (some ⟨b, 0, none⟩)] w fun v w' => ∃ c, v = .tuple #[.pointer (some ⟨c, 0, none⟩), .nilIface] ∧ w.heap.size ≤ c ∧ Ext No w w' ∧ Blk w' c 126 (encCl b (openS B.data)) := by
  refine fn_intro tabOk Tryd.func45 (by kernel_rfl) rfl Tryd.ntmps45 (Nat.le_of_ble_eq_true rfl) ?_
  have hS := St.start w No
  (conv => whnf)
  refine ldc (v := .bool B.off) (by rw [hB.cell]; exact by_off hl) ?_
  rw [ho]
  (conv => whnf)
  refine hS.new (fun c w' hc hS => ?_)
  (conv => whnf)
  refine loopR tabOk (fun σ w' q => ∃ k : Nat, σ = [(21, .int .i64 k), (4, .pointer (some ⟨c, 0, none⟩)), (0, .pointer (some ⟨b, 0, none⟩))] ∧ q = 2 - k ∧ k ≤ 2 ∧ St w No w' [blk c 126 (encCl b (openN B.data k))])
    (σ' := [(21, .int .i64 ((0 : Nat) : Int)), (4, .pointer (some ⟨c, 0, none⟩)), (0, .pointer (some ⟨b, 0, none⟩))]) (n := 2) ⟨rfl, rfl, rfl, trivial⟩ ⟨0, rfl, rfl, Nat.zero_le _, hS⟩ ?_
  clear hS
  rintro _ w1 q ⟨k, rfl, rfl, hk, hS⟩
  (conv => whnf)
  refine brD (fun h3 => ?_) (fun h3 => ?_)
  · have hk2 : k < 2 := by omega
    have hrl := recK_len hl hk2
    have n1 := recN_lt B.data k
    have n2 := recE_lt B.data k
    have n3 := recL_lt B.data k
    have hst : openN B.data (k + 1) = openK B.data k (openN B.data k) := rfl
    (conv => whnf)
    refine (ball_ok (hS.ext.blk hB id) hl).mono ?_
    rintro v w' ⟨rfl, hx'⟩
    replace hS := hS.no hx'
    clear hx'
    repeat' ((conv => whnf); first | refine RetC.mk ?_ | refine NzC.mk (by decide) ?_ | refine RngC.mk (by omega) (by omega) ?_ | refine IdxC.mk (by omega) (by omega) ?_ | refine RngC.mk (by omega) (by omega) ?_ | refine brD (fun _ => ?_) (fun _ => ?_) | refine brND (fun _ => ?_) (fun _ => ?_) | refine brN (fun _ => ?_) (fun _ => ?_) | refine brI (fun _ => ?_) (fun _ => ?_))
    refine slcS (a := k * 20) (b := k * 20 + 17) (r := recK B.data k) Tryd.underlying9 (by omega) (by omega) (by omega) (by omega) (by unfold recK; congr 1; omega) ?_
    (conv => whnf)
    (refine drawS tabOk mixed [] (No) [0, 1, 3, 4, 6, 7, 2, 5, 8, 9, 10, 11] (by kernel_rfl) ?_; rintro w1 rfl; replace hS := hS.drew)
    (conv => whnf)
    refine slcTo (b := 4) Tryd.underlying9 rfl (by omega) rfl ?_
    (conv => whnf)
    refine slcS (a := 4) (b := 8) Tryd.underlying9 rfl rfl (by omega) (by omega) rfl ?_
    (conv => whnf)
    refine slcS (a := 8) (b := 12) Tryd.underlying9 rfl rfl (by omega) (by omega) rfl ?_
    (conv => whnf)
    refine (value_ok ((recK B.data k).take 4) (by rw [List.length_take]; omega) _).mono ?_
    rintro v w2 ⟨rfl, hx1⟩
    replace hS := hS.no hx1
    refine KeepC.mk hx1 ?_
    (conv => whnf)
    refine (value_ok (((recK B.data k).drop 4).take (8 - 4)) (by rw [List.length_take]; omega) _).mono ?_
    rintro v w3 ⟨rfl, hx2⟩
    replace hS := hS.no hx2
    refine KeepC.mk (hx1.trans hx2) ?_
    (conv => whnf)
    refine (value_ok (((recK B.data k).drop 8).take (12 - 8)) (by rw [List.length_take]; omega) _).mono ?_
    rintro v w4 ⟨rfl, hx3⟩
    replace hS := hS.no hx3
    refine KeepC.mk ((hx1.trans hx2).trans hx3) ?_
    clear hx1 hx2 hx3
    rw [show valB ((recK B.data k).take 4) = recN B.data k from rfl, show valB (((recK B.data k).drop 4).take (8 - 4)) = recE B.data k from rfl, show valB (((recK B.data k).drop 8).take (12 - 8)) = recL B.data k from rfl]
    have hmod : (recN B.data k : Int).tmod 2 = ((recN B.data k % 2 : Nat) : Int) := by rw [Int.tmod_eq_emod_of_nonneg (by omega)]; omega
    have hf : fullK B.data k ↔ (1 ≤ recN B.data k ∧ recN B.data k % 2 = k ∧ bodyB (recN B.data k) (recE B.data k) (recL B.data k) ++ [165] = recK B.data k) := Iff.rfl
    have hok : openK B.data k (openN B.data k) = if fullK B.data k ∧ recN B.data k > (openN B.data k).num then ⟨recN B.data k, recE B.data k, recL B.data k, (openN B.data k).dead⟩ else openN B.data k := rfl
    generalize hn : recN B.data k = rn at *
    generalize hee : recE B.data k = re at *
    generalize hll : recL B.data k = rl at *
    (conv => whnf)
    refine brD (fun h4 => ?_) (fun h4 => ?_)
    · (conv => whnf)
      refine NzC.mk (by decide) ?_
      rw [hmod]
      (conv => whnf)
      refine brD (fun h5 => ?_) (fun h5 => ?_)
      · (conv => whnf)
        refine (body_ok rn re rl (by omega) (by omega) (by omega) _).mono ?_
        rintro v w' ⟨rfl, hx'⟩
        replace hS := hS.no hx'
        clear hx'
        (conv => whnf)
        refine addS (b := [165]) (by rw [bodyB_len]; simp) ?_
        (conv => whnf)
        refine eqS2 ?_
        (conv => whnf)
        refine brD (fun h6 => ?_) (fun h6 => ?_)
        · (conv => whnf)
          refine hS.ld 0 rfl rfl ?_
          (conv => whnf)
          refine brD (fun h7 => ?_) (fun h7 => ?_)
          · rw [hok, if_pos ⟨hf.2 ⟨by omega, by omega, h6⟩, by omega⟩] at hst
            (conv => whnf)
            refine hS.st 0 rfl (Nat.le_of_ble_eq_true rfl) rfl (fun w' hS => ?_)
            (conv => whnf)
            refine hS.st 0 rfl (Nat.le_of_ble_eq_true rfl) rfl (fun w' hS => ?_)
            (conv => whnf)
            refine hS.st 0 rfl (Nat.le_of_ble_eq_true rfl) rfl (fun w' hS => ?_)
            replace hS : St w No w' [blk c 126 (encCl b ⟨rn, re, rl, (openN B.data k).dead⟩)] := hS
            rw [← hst] at hS
            (conv => whnf)
            refine RngC.mk (by omega) (by omega) ?_
            (conv => whnf)
            refine LoopE.mk ⟨_, [(21, .int .i64 ((k + 1 : Nat) : Int)), (4, _), (0, _)], ?_, ⟨rfl, rfl, rfl, trivial⟩, ⟨k + 1, rfl, rfl, by omega, hS⟩⟩
            omega
          · skip
            rw [hok, if_neg (fun h => h7 (by have := h.2; omega))] at hst
            (conv => whnf)
            refine RngC.mk (by omega) (by omega) ?_
            (conv => whnf)
            refine LoopE.mk ⟨_, [(21, .int .i64 ((k + 1 : Nat) : Int)), (4, _), (0, _)], ?_, ⟨rfl, rfl, rfl, trivial⟩, ⟨k + 1, rfl, rfl, by omega, by rw [hst]; exact hS⟩⟩
            omega
        · skip
          rw [hok, if_neg (fun h => h6 (hf.1 h.1).2.2)] at hst
          (conv => whnf)
          refine RngC.mk (by omega) (by omega) ?_
          (conv => whnf)
          refine LoopE.mk ⟨_, [(21, .int .i64 ((k + 1 : Nat) : Int)), (4, _), (0, _)], ?_, ⟨rfl, rfl, rfl, trivial⟩, ⟨k + 1, rfl, rfl, by omega, by rw [hst]; exact hS⟩⟩
          omega
      · skip
        rw [hok, if_neg (fun h => h5 (by have := (hf.1 h.1).2.1; omega))] at hst
        (conv => whnf)
        refine RngC.mk (by omega) (by omega) ?_
        (conv => whnf)
        refine LoopE.mk ⟨_, [(21, .int .i64 ((k + 1 : Nat) : Int)), (4, _), (0, _)], ?_, ⟨rfl, rfl, rfl, trivial⟩, ⟨k + 1, rfl, rfl, by omega, by rw [hst]; exact hS⟩⟩
        omega
    · skip
      rw [hok, if_neg (fun h => h4 (by have := (hf.1 h.1).1; omega))] at hst
      (conv => whnf)
      refine RngC.mk (by omega) (by omega) ?_
      (conv => whnf)
      refine LoopE.mk ⟨_, [(21, .int .i64 ((k + 1 : Nat) : Int)), (4, _), (0, _)], ?_, ⟨rfl, rfl, rfl, trivial⟩, ⟨k + 1, rfl, rfl, by omega, by rw [hst]; exact hS⟩⟩
      omega
  · obtain rfl : k = 2 := by omega
    repeat' ((conv => whnf); first | refine RetC.mk ?_ | refine NzC.mk (by decide) ?_ | refine RngC.mk (by omega) (by omega) ?_ | refine IdxC.mk (by omega) (by omega) ?_ | refine brD (fun _ => ?_) (fun _ => ?_) | refine brND (fun _ => ?_) (fun _ => ?_) | refine brN (fun _ => ?_) (fun _ => ?_) | refine brI (fun _ => ?_) (fun _ => ?_))
    exact ⟨c, rfl, hc, hS.ext, hS.blk 0 rfl⟩
theorem cput_ok {E : Nat → Addr} {q : Nat} (e l : Int) (hC : Blk w c 126 (encCl b C)) (hB : Blk w b 124 (encBy B)) (hO : BOk B) (hN : C.num < 4294967296) (hE : Errs w E q [2, 6, 7, 10]) (hq : q ≤ b) (hqc : q ≤ c) :
    CallC Tryd.prog 47 #[.pointer (some ⟨c, 0, none⟩), .int .i64 e, .int .i64 l] w fun v w' => v = errV E (C.put B e l).1 ∧ Ext (fun d => d = b ∨ d = c) w w' ∧ Blk w' b 124 (encBy (C.put B e l).2.1) ∧ Blk w' c 126 (encCl b (C.put B e l).2.2) := by
  have hcb : ¬ c = b := Blk.ne hC hB (by decide)
  unfold CelS.put
  refine fn_intro tabOk Tryd.func47 (by kernel_rfl) rfl Tryd.ntmps47 (Nat.le_of_ble_eq_true rfl) ?_
  have hS := (St.start w (fun d => d = b ∨ d = c)).add (blk_local b _ _) hB (by simp [blk]; exact hB.lt) (by simp)
  have hS := hS.add (blk_local c _ _) hC (by simp [blk]; exact hC.lt) (by simp [blk]; omega)
  (conv => whnf)
  refine hS.ld 1 rfl (o := 4) rfl ?_
  cases hd : C.dead
  · rw [if_neg Bool.false_ne_true]
    by_cases hr : e < 0 ∨ e > 1073741824 ∨ l < 0 ∨ l > 1073741824
    · rw [if_pos hr]
      (conv => whnf)
      refine brD (fun h1 => ?_) (fun h1 => ?_)
      · skip
        repeat' ((conv => whnf); first | refine RetC.mk ?_ | refine NzC.mk (by decide) ?_ | refine RngC.mk (by omega) (by omega) ?_ | refine IdxC.mk (by omega) (by omega) ?_ | refine hS.ldr (hE.at_ 2 rfl) (fun h => h.elim (hE.ne 2 rfl hq) (hE.ne 2 rfl hqc)) ?_ | refine brD (fun _ => ?_) (fun _ => ?_) | refine brND (fun _ => ?_) (fun _ => ?_) | refine brN (fun _ => ?_) (fun _ => ?_) | refine brI (fun _ => ?_) (fun _ => ?_))
        exact ⟨rfl, hS.ext, hS.blk 0 rfl, hS.blk 1 rfl⟩
      (conv => whnf)
      refine brD (fun h2 => ?_) (fun h2 => ?_)
      · skip
        repeat' ((conv => whnf); first | refine RetC.mk ?_ | refine NzC.mk (by decide) ?_ | refine RngC.mk (by omega) (by omega) ?_ | refine IdxC.mk (by omega) (by omega) ?_ | refine hS.ldr (hE.at_ 2 rfl) (fun h => h.elim (hE.ne 2 rfl hq) (hE.ne 2 rfl hqc)) ?_ | refine brD (fun _ => ?_) (fun _ => ?_) | refine brND (fun _ => ?_) (fun _ => ?_) | refine brN (fun _ => ?_) (fun _ => ?_) | refine brI (fun _ => ?_) (fun _ => ?_))
        exact ⟨rfl, hS.ext, hS.blk 0 rfl, hS.blk 1 rfl⟩
      (conv => whnf)
      refine brD (fun h3 => ?_) (fun h3 => ?_)
      · skip
        repeat' ((conv => whnf); first | refine RetC.mk ?_ | refine NzC.mk (by decide) ?_ | refine RngC.mk (by omega) (by omega) ?_ | refine IdxC.mk (by omega) (by omega) ?_ | refine hS.ldr (hE.at_ 2 rfl) (fun h => h.elim (hE.ne 2 rfl hq) (hE.ne 2 rfl hqc)) ?_ | refine brD (fun _ => ?_) (fun _ => ?_) | refine brND (fun _ => ?_) (fun _ => ?_) | refine brN (fun _ => ?_) (fun _ => ?_) | refine brI (fun _ => ?_) (fun _ => ?_))
        exact ⟨rfl, hS.ext, hS.blk 0 rfl, hS.blk 1 rfl⟩
      (conv => whnf)
      refine brD (fun h4 => ?_) (fun h4 => absurd hr (by omega))
      repeat' ((conv => whnf); first | refine RetC.mk ?_ | refine NzC.mk (by decide) ?_ | refine RngC.mk (by omega) (by omega) ?_ | refine IdxC.mk (by omega) (by omega) ?_ | refine hS.ldr (hE.at_ 2 rfl) (fun h => h.elim (hE.ne 2 rfl hq) (hE.ne 2 rfl hqc)) ?_ | refine brD (fun _ => ?_) (fun _ => ?_) | refine brND (fun _ => ?_) (fun _ => ?_) | refine brN (fun _ => ?_) (fun _ => ?_) | refine brI (fun _ => ?_) (fun _ => ?_))
      exact ⟨rfl, hS.ext, hS.blk 0 rfl, hS.blk 1 rfl⟩
    rw [if_neg hr]
    (conv => whnf)
    refine brD (fun h => absurd h (by omega)) (fun h1 => ?_)
    (conv => whnf)
    refine brD (fun h => absurd h (by omega)) (fun h2 => ?_)
    (conv => whnf)
    refine brD (fun h => absurd h (by omega)) (fun h3 => ?_)
    (conv => whnf)
    refine brD (fun h => absurd h (by omega)) (fun h4 => ?_)
    obtain ⟨e, rfl⟩ := Int.eq_ofNat_of_zero_le (show 0 ≤ e by omega)
    obtain ⟨l, rfl⟩ := Int.eq_ofNat_of_zero_le (show 0 ≤ l by omega)
    simp only [Int.toNat_natCast]
    (conv => whnf)
    refine hS.ld 1 rfl (o := 2) rfl ?_
    by_cases ho : (e : Int) < C.ep ∨ (l : Int) < C.li
    · rw [if_pos ho]
      (conv => whnf)
      refine brD (fun h5 => ?_) (fun h5 => ?_)
      · skip
        repeat' ((conv => whnf); first | refine RetC.mk ?_ | refine NzC.mk (by decide) ?_ | refine RngC.mk (by omega) (by omega) ?_ | refine IdxC.mk (by omega) (by omega) ?_ | refine hS.ldr (hE.at_ 10 rfl) (fun h => h.elim (hE.ne 10 rfl hq) (hE.ne 10 rfl hqc)) ?_ | refine brD (fun _ => ?_) (fun _ => ?_) | refine brND (fun _ => ?_) (fun _ => ?_) | refine brN (fun _ => ?_) (fun _ => ?_) | refine brI (fun _ => ?_) (fun _ => ?_))
        exact ⟨rfl, hS.ext, hS.blk 0 rfl, hS.blk 1 rfl⟩
      (conv => whnf)
      refine hS.ld 1 rfl (o := 3) rfl ?_
      (conv => whnf)
      refine brD (fun h6 => ?_) (fun h6 => absurd ho (by omega))
      repeat' ((conv => whnf); first | refine RetC.mk ?_ | refine NzC.mk (by decide) ?_ | refine RngC.mk (by omega) (by omega) ?_ | refine IdxC.mk (by omega) (by omega) ?_ | refine hS.ldr (hE.at_ 10 rfl) (fun h => h.elim (hE.ne 10 rfl hq) (hE.ne 10 rfl hqc)) ?_ | refine brD (fun _ => ?_) (fun _ => ?_) | refine brND (fun _ => ?_) (fun _ => ?_) | refine brN (fun _ => ?_) (fun _ => ?_) | refine brI (fun _ => ?_) (fun _ => ?_))
      exact ⟨rfl, hS.ext, hS.blk 0 rfl, hS.blk 1 rfl⟩
    rw [if_neg ho]
    (conv => whnf)
    refine brD (fun h => absurd h (by omega)) (fun h5 => ?_)
    (conv => whnf)
    refine hS.ld 1 rfl (o := 3) rfl ?_
    (conv => whnf)
    refine brD (fun h => absurd h (by omega)) (fun h6 => ?_)
    (conv => whnf)
    refine hS.ld 1 rfl (o := 1) rfl ?_
    (conv => whnf)
    refine RngC.mk (by omega) (by omega) ?_
    (conv => whnf)
    refine brD (fun h7 => ?_) (fun h7 => ?_)
    · rw [if_pos (show C.num + 1 ≥ 4294967296 by omega)]
      repeat' ((conv => whnf); first | refine RetC.mk ?_ | refine NzC.mk (by decide) ?_ | refine RngC.mk (by omega) (by omega) ?_ | refine IdxC.mk (by omega) (by omega) ?_ | refine hS.ldr (hE.at_ 6 rfl) (fun h => h.elim (hE.ne 6 rfl hq) (hE.ne 6 rfl hqc)) ?_ | refine brD (fun _ => ?_) (fun _ => ?_) | refine brND (fun _ => ?_) (fun _ => ?_) | refine brN (fun _ => ?_) (fun _ => ?_) | refine brI (fun _ => ?_) (fun _ => ?_))
      exact ⟨rfl, hS.ext, hS.blk 0 rfl, hS.blk 1 rfl⟩
    rw [if_neg (show ¬ C.num + 1 ≥ 4294967296 by omega)]
    (conv => whnf)
    refine hS.ld 1 rfl (o := 1) rfl ?_
    (conv => whnf)
    refine RngC.mk (by omega) (by omega) ?_
    rw [show (C.num : Int) + 1 = ((C.num + 1 : Nat) : Int) by omega]
    (conv => whnf)
    refine (cwrite_ok (C.num + 1) e l (by omega) (by omega) (by omega) (hS.blk 1 rfl) (hS.blk 0 rfl) hO ((hE.sub rfl).ext hS.ext fun k hk => hk.elim (fun h => by subst h; exact hq) fun h => by subst h; exact hqc) hq).mono ?_
    rintro v w' ⟨rfl, hx', hB'⟩
    replace hS := hS.upd 0 rfl hx' (fun c hc => by subst hc; exact List.mem_singleton.2 rfl) (blk_local _ _ _) hB' (fun c hc => .inl hc)
    clear hx' hB'
    generalize cwrite B (C.num + 1) e l = R at hS ⊢
    obtain ⟨ok, B2⟩ := R
    cases ok
    · (conv => whnf)
      refine hS.st 1 rfl (Nat.le_of_ble_eq_true rfl) rfl (fun w' hS => ?_)
      repeat' ((conv => whnf); first | refine RetC.mk ?_ | refine NzC.mk (by decide) ?_ | refine RngC.mk (by omega) (by omega) ?_ | refine IdxC.mk (by omega) (by omega) ?_ | refine brD (fun _ => ?_) (fun _ => ?_) | refine brND (fun _ => ?_) (fun _ => ?_) | refine brN (fun _ => ?_) (fun _ => ?_) | refine brI (fun _ => ?_) (fun _ => ?_))
      exact ⟨rfl, hS.ext, hS.blk 0 rfl, hS.blk 1 rfl⟩
    · skip
      (conv => whnf)
      refine hS.ld 1 rfl (o := 1) rfl ?_
      (conv => whnf)
      refine RngC.mk (by omega) (by omega) ?_
      (conv => whnf)
      refine hS.st 1 rfl (Nat.le_of_ble_eq_true rfl) rfl (fun w' hS => ?_)
      (conv => whnf)
      refine hS.st 1 rfl (Nat.le_of_ble_eq_true rfl) rfl (fun w' hS => ?_)
      (conv => whnf)
      refine hS.st 1 rfl (Nat.le_of_ble_eq_true rfl) rfl (fun w' hS => ?_)
      repeat' ((conv => whnf); first | refine RetC.mk ?_ | refine NzC.mk (by decide) ?_ | refine RngC.mk (by omega) (by omega) ?_ | refine IdxC.mk (by omega) (by omega) ?_ | refine brD (fun _ => ?_) (fun _ => ?_) | refine brND (fun _ => ?_) (fun _ => ?_) | refine brN (fun _ => ?_) (fun _ => ?_) | refine brI (fun _ => ?_) (fun _ => ?_))
      exact ⟨rfl, hS.ext, hS.blk 0 rfl, (hS.blk 1 rfl).to (by rw [← hd]; rfl)⟩
  · rw [if_pos rfl]
    repeat' ((conv => whnf); first | refine RetC.mk ?_ | refine NzC.mk (by decide) ?_ | refine RngC.mk (by omega) (by omega) ?_ | refine IdxC.mk (by omega) (by omega) ?_ | refine hS.ldr (hE.at_ 7 rfl) (fun h => h.elim (hE.ne 7 rfl hq) (hE.ne 7 rfl hqc)) ?_ | refine brD (fun _ => ?_) (fun _ => ?_) | refine brND (fun _ => ?_) (fun _ => ?_) | refine brN (fun _ => ?_) (fun _ => ?_) | refine brI (fun _ => ?_) (fun _ => ?_))
    exact ⟨rfl, hS.ext, hS.blk 0 rfl, hS.blk 1 rfl⟩
end
end Go.Proofs.YteakdmngllfodaaDoor
