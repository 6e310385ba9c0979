
/-
  The reference's CRC, Body and value, walked: they are sum, body and value.
-/
import Derived.Test.YteakdmngllfodaaDoorRefNum
namespace Go.Proofs.YteakdmngllfodaaDoor
open Go Ev

def rIt (x : Nat) : Nat → Nat → Nat
  | 0, c => c
  | k + 1, c => if (rIt x k c ^^^ x / 2 ^ k) % 2 = 1 then rIt x k c / 2 ^^^ 3988292384 else rIt x k c / 2
theorem xor_half (a b : Nat) : (a ^^^ b) / 2 ^ 1 = a / 2 ^ 1 ^^^ b / 2 ^ 1 := by
  have := Nat.shiftRight_xor_distrib (a := a) (b := b) (i := 1)
  simpa [Nat.shiftRight_eq_div_pow] using this
theorem rIt_eq (x c : Nat) : ∀ k, crcIt k (c ^^^ x) = rIt x k c ^^^ x / 2 ^ k
  | 0 => by simp [crcIt, rIt]
  | k + 1 => by
    have ih := rIt_eq x c k
    have e : x / 2 ^ (k + 1) = x / 2 ^ k / 2 ^ 1 := by rw [Nat.pow_succ, Nat.div_div_eq_div_mul]
    unfold crcIt crcBit rIt
    rw [ih, xor_half, Nat.and_one_is_mod, e]
    generalize x / 2 ^ k = q
    generalize rIt x k c = r
    split
    · rename_i h
      rw [h, Nat.mul_one, Nat.pow_one, Nat.xor_assoc, Nat.xor_assoc]
      first | done | rw [Nat.xor_comm (q / 2)]
    · rename_i h
      have : (r ^^^ q) % 2 = 0 := by omega
      rw [this, Nat.mul_zero, Nat.pow_one, Nat.xor_zero]
theorem rIt_byte (c : Nat) (x : UInt8) : rIt x.toNat 8 c = crcByte c x := by
  unfold crcByte
  rw [rIt_eq]
  have := x.toNat_lt
  rw [Nat.div_eq_of_lt (by omega), Nat.xor_zero]
theorem rIt_lt {c x : Nat} (h : c < 4294967296) : ∀ k, rIt x k c < 4294967296
  | 0 => h
  | k + 1 => by
    have := rIt_lt (x := x) h k
    unfold rIt
    split
    · exact Nat.xor_lt_two_pow (n := 32) (by omega) (by omega)
    · omega

theorem crc_ok (l : List UInt8) (hl : l.length ≤ 1000000) (w : World) :
    CallC Tryd.prog 94 #[.string (bs l)] w fun v w' => v = .int .i64 (sumB l : Nat) ∧ Ext No w w' := by
  refine fn_intro tabOk Tryd.func94 (by kernel_rfl) rfl Tryd.ntmps94 (Nat.le_of_ble_eq_true rfl) ?_
  have hS := St.start w No
  (conv => whnf)
  refine loopR tabOk (fun σ w' q => ∃ i : Nat, σ = [(4, .int .i64 i), (3, .int .i64 (crcN (l.take i) : Nat)), (0, .string (bs l))] ∧ q = l.length - i ∧ i ≤ l.length ∧ St w No w' [])
    (σ' := [(4, .int .i64 ((0 : Nat) : Int)), (3, .int .i64 ((4294967295 : Nat) : Int)), (0, .string (bs l))]) (n := l.length) ⟨rfl, rfl, rfl, trivial⟩ ⟨0, rfl, rfl, Nat.zero_le _, hS⟩ ?_
  clear hS
  rintro _ w1 q ⟨i, rfl, rfl, hi, hS⟩
  (conv => whnf)
  rw [bs_size]
  refine brD (fun h3 => ?_) (fun h3 => ?_)
  · obtain ⟨x, hx⟩ : ∃ x, l[i]? = some x := ⟨_, List.getElem?_eq_getElem (by omega)⟩
    have hst := crcN_step hx
    have hlt := crcN_lt (l.take i)
    have hx8 := x.toNat_lt
    generalize crcN (l.take i) = c at hst hlt
    (conv => whnf)
    refine loopR tabOk (fun σ w' q => ∃ j : Nat, σ = [(5, .int .i64 j), (4, .int .i64 i), (3, .int .i64 (rIt x.toNat j c : Nat)), (0, .string (bs l))] ∧ q = 8 - j ∧ j ≤ 8 ∧ St w No w' [])
      (σ' := [(5, .int .i64 ((0 : Nat) : Int)), (4, .int .i64 i), (3, .int .i64 (rIt x.toNat 0 c : Nat)), (0, .string (bs l))]) (n := 8) ⟨rfl, rfl, rfl, rfl, trivial⟩ ⟨0, rfl, rfl, Nat.zero_le _, hS⟩ ?_
    clear hS
    rintro _ w2 q ⟨j, rfl, rfl, hj, hS⟩
    have hd := rIt_lt (x := x.toNat) hlt j
    have hdd : rIt x.toNat (j + 1) c = if (rIt x.toNat j c ^^^ x.toNat / 2 ^ j) % 2 = 1 then rIt x.toNat j c / 2 ^^^ 3988292384 else rIt x.toNat j c / 2 := rfl
    have h88 := rIt_byte c x
    have hq : x.toNat / 2 ^ j ≤ x.toNat := Nat.div_le_self _ _
    (conv => whnf)
    refine brD (fun h4 => ?_) (fun h4 => ?_)
    · generalize rIt x.toNat j c = d at hd hdd
      (conv => whnf)
      refine idxS Tryd.underlying9 rfl hx ?_
      (conv => whnf)
      refine convI (kd := .i64) (m := (x.toNat : Int)) (by kernel_rfl) Tryd.underlying3 (by rw [IntKind.wrap_i64]; omega) ?_
      (conv => whnf)
      refine convI (kd := .u64) (m := (j : Int)) (by kernel_rfl) Tryd.underlying139 (by simp [IntKind.wrap, IntKind.bits, IntKind.signed]; omega) ?_
      (conv => whnf)
      refine shrN (n := j) rfl (by show j ≤ 64; omega) ?_
      (conv => whnf)
      refine xorC64 (by omega) (by omega) ?_
      have hm : ((d ^^^ x.toNat / 2 ^ j : Nat) : Int).tmod 2 = (((d ^^^ x.toNat / 2 ^ j) % 2 : Nat) : Int) := by rw [Int.tmod_eq_emod_of_nonneg (by omega)]; omega
      have hd2 : (d : Int).tdiv 2 = ((d / 2 : Nat) : Int) := by rw [Int.tdiv_eq_ediv_of_nonneg (by omega)]; omega
      (conv => whnf)
      refine NzC.mk (by decide) ?_
      rw [hm]
      generalize d ^^^ x.toNat / 2 ^ j = z at hdd
      (conv => whnf)
      refine NzC.mk (by decide) ?_
      rw [hd2]
      (conv => whnf)
      refine RngC.mk (by omega) (by omega) ?_
      (conv => whnf)
      refine brD (fun h5 => ?_) (fun h5 => ?_)
      · rw [if_pos (by omega)] at hdd
        (conv => whnf)
        refine xorC64 (b := 3988292384) (by omega) (by omega) ?_
        rw [← hdd]
        (conv => whnf)
        refine RngC.mk (by omega) (by omega) ?_
        (conv => whnf)
        refine LoopE.mk ⟨_, [(5, .int .i64 ((j + 1 : Nat) : Int)), (4, _), (3, _), (0, _)], ?_, ⟨rfl, rfl, rfl, rfl, trivial⟩, ⟨j + 1, rfl, rfl, by omega, hS⟩⟩
        omega
      · rw [if_neg (by omega)] at hdd
        rw [← hdd]
        (conv => whnf)
        refine RngC.mk (by omega) (by omega) ?_
        (conv => whnf)
        refine LoopE.mk ⟨_, [(5, .int .i64 ((j + 1 : Nat) : Int)), (4, _), (3, _), (0, _)], ?_, ⟨rfl, rfl, rfl, rfl, trivial⟩, ⟨j + 1, rfl, rfl, by omega, hS⟩⟩
        omega
    · obtain rfl : j = 8 := by omega
      rw [h88, ← hst]
      (conv => whnf)
      refine RngC.mk (by omega) (by omega) ?_
      (conv => whnf)
      refine LoopE.mk ⟨_, [(4, .int .i64 ((i + 1 : Nat) : Int)), (3, _), (0, _)], ?_, ⟨rfl, rfl, rfl, trivial⟩, ⟨i + 1, rfl, rfl, by omega, hS⟩⟩
      omega
  · obtain rfl : i = l.length := by omega
    rw [List.take_length]
    have h1 := crcN_lt l
    (conv => whnf)
    refine xorC64 (b := 4294967295) (by omega) (by omega) ?_
    rw [Nat.xor_comm]
    repeat' ((conv => whnf); first | refine RetC.mk ?_ | refine NzC.mk (by decide) ?_ | refine RngC.mk (by omega) (by omega) ?_ | refine IdxC.mk (by omega) (by omega) ?_ | refine brD (fun _ => ?_) (fun _ => ?_) | refine brND (fun _ => ?_) (fun _ => ?_) | refine brN (fun _ => ?_) (fun _ => ?_) | refine brI (fun _ => ?_) (fun _ => ?_))
    exact ⟨rfl, hS.ext⟩

theorem rbody_ok (n e l : Nat) (hn : n < 9223372036854775808) (he : e < 9223372036854775808) (hl : l < 9223372036854775808) (w : World) :
    CallC Tryd.prog 82 #[.int .i64 (n : Int), .int .i64 (e : Int), .int .i64 (l : Int)] w fun v w' => v = .string (bs (bodyB n e l)) ∧ Ext No w w' := by
  have hs := sumB_lt (headB n e l)
  refine fn_intro tabOk Tryd.func82 (by kernel_rfl) rfl Tryd.ntmps82 (Nat.le_of_ble_eq_true rfl) ?_
  have hS := St.start w No
  (conv => whnf)
  refine (wide_ok n 4 (by omega) hn _).mono ?_
  rintro v w' ⟨rfl, hx⟩
  replace hS := hS.no hx
  (conv => whnf)
  refine (wide_ok e 4 (by omega) he _).mono ?_
  rintro v w' ⟨rfl, hx⟩
  replace hS := hS.no hx
  (conv => whnf)
  refine addS (by simp [numB_len]) ?_
  (conv => whnf)
  refine (wide_ok l 4 (by omega) hl _).mono ?_
  rintro v w' ⟨rfl, hx⟩
  replace hS := hS.no hx
  (conv => whnf)
  refine addS (by simp [numB_len]) ?_
  rw [show numB n 4 ++ numB e 4 ++ numB l 4 = headB n e l from rfl]
  (conv => whnf)
  refine (crc_ok (headB n e l) (by rw [headB_len]; omega) _).mono ?_
  rintro v w' ⟨rfl, hx⟩
  replace hS := hS.no hx
  (conv => whnf)
  refine (wide_ok (sumB (headB n e l)) 4 (by omega) (by omega) _).mono ?_
  rintro v w' ⟨rfl, hx⟩
  replace hS := hS.no hx
  (conv => whnf)
  refine addS (by simp [numB_len, headB_len]) ?_
  repeat' ((conv => whnf); first | refine RetC.mk ?_ | refine NzC.mk (by decide) ?_ | refine RngC.mk (by omega) (by omega) ?_ | refine IdxC.mk (by omega) (by omega) ?_ | refine brD (fun _ => ?_) (fun _ => ?_) | refine brND (fun _ => ?_) (fun _ => ?_) | refine brN (fun _ => ?_) (fun _ => ?_) | refine brI (fun _ => ?_) (fun _ => ?_))
  exact ⟨rfl, hS.ext⟩
theorem rvalue_ok (l : List UInt8) (hl : l.length ≤ 7) (w : World) :
    CallC Tryd.prog 81 #[.string (bs l)] w fun v w' => v = .int .i64 (valB l : Nat) ∧ Ext No w w' := by
  refine fn_intro tabOk Tryd.func81 (by kernel_rfl) rfl Tryd.ntmps81 (Nat.le_of_ble_eq_true rfl) ?_
  have hS := St.start w No
  (conv => whnf)
  refine loopR tabOk (fun σ w' q => ∃ i : Nat, σ = [(4, .int .i64 i), (3, .int .i64 (valB (l.take i) : Nat)), (0, .string (bs l))] ∧ q = l.length - i ∧ i ≤ l.length ∧ St w No w' [])
    (σ' := [(4, .int .i64 ((0 : Nat) : Int)), (3, .int .i64 ((0 : Nat) : Int)), (0, .string (bs l))]) (n := l.length) ⟨rfl, rfl, rfl, trivial⟩ ⟨0, rfl, rfl, Nat.zero_le _, hS⟩ ?_
  clear hS
  rintro _ w1 q ⟨i, rfl, rfl, hi, hS⟩
  (conv => whnf)
  rw [bs_size]
  refine brD (fun h3 => ?_) (fun h3 => ?_)
  · obtain ⟨x, hx⟩ : ∃ x, l[i]? = some x := ⟨_, List.getElem?_eq_getElem (by omega)⟩
    have hst := valB_step hx
    have hlt := valB_lt (l.take i)
    have h7 : 256 ^ (l.take i).length ≤ 256 ^ 6 := Nat.pow_le_pow_right (by omega) (by rw [List.length_take]; omega)
    have hx8 := x.toNat_lt
    generalize valB (l.take i) = v at hst hlt
    have hv : v < 281474976710656 := Nat.lt_of_lt_of_le hlt h7
    (conv => whnf)
    refine RngC.mk (by omega) (by omega) ?_
    (conv => whnf)
    refine idxS Tryd.underlying9 rfl hx ?_
    (conv => whnf)
    refine convI (kd := .i64) (m := (x.toNat : Int)) (by kernel_rfl) Tryd.underlying3 (by rw [IntKind.wrap_i64]; omega) ?_
    (conv => whnf)
    refine RngC.mk (by omega) (by omega) ?_
    rw [show 256 * (v : Int) + (x.toNat : Int) = ((valB (l.take (i + 1)) : Nat) : Int) by rw [hst]; omega]
    (conv => whnf)
    refine RngC.mk (by omega) (by omega) ?_
    (conv => whnf)
    refine LoopE.mk ⟨_, [(4, .int .i64 ((i + 1 : Nat) : Int)), (3, _), (0, _)], ?_, ⟨rfl, rfl, rfl, trivial⟩, ⟨i + 1, rfl, rfl, by omega, hS⟩⟩
    omega
  · obtain rfl : i = l.length := by omega
    rw [List.take_length]
    repeat' ((conv => whnf); first | refine RetC.mk ?_ | refine NzC.mk (by decide) ?_ | refine RngC.mk (by omega) (by omega) ?_ | refine IdxC.mk (by omega) (by omega) ?_ | refine brD (fun _ => ?_) (fun _ => ?_) | refine brND (fun _ => ?_) (fun _ => ?_) | refine brN (fun _ => ?_) (fun _ => ?_) | refine brI (fun _ => ?_) (fun _ => ?_))
    exact ⟨rfl, hS.ext⟩
end Go.Proofs.YteakdmngllfodaaDoor
