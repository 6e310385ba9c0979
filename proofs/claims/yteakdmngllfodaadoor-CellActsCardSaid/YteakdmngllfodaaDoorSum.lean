
/-
  cell.sum and cell.body, walked: what a cell's record is.
-/
import Derived.Test.YteakdmngllfodaaDoorNumber
namespace Go.Proofs.YteakdmngllfodaaDoor
open Go Ev

def crcBit (c : Nat) : Nat := c / 2 ^ 1 ^^^ 3988292384 * (c &&& 1)
def crcIt : Nat → Nat → Nat
  | 0, c => c
  | k + 1, c => crcBit (crcIt k c)
def crcByte (c : Nat) (b : UInt8) : Nat := crcIt 8 (c ^^^ b.toNat)
def crcN (l : List UInt8) : Nat := l.foldl crcByte 4294967295
def sumB (l : List UInt8) : Nat := 4294967295 ^^^ crcN l
theorem and1_le (c : Nat) : c &&& 1 ≤ 1 := by
  rw [Nat.and_one_is_mod]
  omega
theorem crcBit_lt {c : Nat} (h : c < 4294967296) : crcBit c < 4294967296 := by
  have h1 := and1_le c
  have : 3988292384 * (c &&& 1) ≤ 3988292384 * 1 := Nat.mul_le_mul_left _ h1
  exact Nat.xor_lt_two_pow (n := 32) (by omega) (by omega)
theorem crcIt_lt {c : Nat} (h : c < 4294967296) : ∀ k, crcIt k c < 4294967296
  | 0 => h
  | k + 1 => crcBit_lt (crcIt_lt h k)
theorem xor_byte {c : Nat} (h : c < 4294967296) (b : UInt8) : c ^^^ b.toNat < 4294967296 := by
  have := b.toNat_lt
  exact Nat.xor_lt_two_pow (n := 32) (by omega) (by omega)
theorem crcByte_lt {c : Nat} (h : c < 4294967296) (b : UInt8) : crcByte c b < 4294967296 := crcIt_lt (xor_byte h b) 8
theorem crcF_lt : ∀ (l : List UInt8) (c : Nat), c < 4294967296 → l.foldl crcByte c < 4294967296
  | [], _, h => h
  | x :: l, c, h => crcF_lt l (crcByte c x) (crcByte_lt h x)
theorem crcN_lt (l : List UInt8) : crcN l < 4294967296 := crcF_lt l _ (by omega)
theorem sumB_lt (l : List UInt8) : sumB l < 4294967296 := Nat.xor_lt_two_pow (n := 32) (by omega) (crcN_lt l)
theorem crcN_step {l : List UInt8} {k : Nat} {x : UInt8} (h : l[k]? = some x) : crcN (l.take (k + 1)) = crcByte (crcN (l.take k)) x := by
  unfold crcN
  rw [List.take_add_one, h, List.foldl_append]
  rfl

theorem sum_ok (l : List UInt8) (hl : l.length ≤ 1000000) (w : World) :
    CallC Tryd.prog 91 #[.string (bs l)] w fun v w' => v = .int .i64 (sumB l : Nat) ∧ Ext No w w' := by
  refine fn_intro tabOk Tryd.func91 (by kernel_rfl) rfl Tryd.ntmps91 (Nat.le_of_ble_eq_true rfl) ?_
  have hS := St.start w No
  (conv => whnf)
  rw [bs_size]
  refine loopR tabOk (fun σ w' q => ∃ i : Nat, σ = [(7, .int .i64 i), (6, .int .i64 (l.length : Nat)), (3, .int .u32 (crcN (l.take i) : Nat)), (0, .string (bs l))] ∧ q = l.length - i ∧ i ≤ l.length ∧ St w No w' [])
    (σ' := [(7, .int .i64 ((0 : Nat) : Int)), (6, .int .i64 (l.length : Nat)), (3, .int .u32 ((4294967295 : Nat) : Int)), (0, .string (bs l))]) (n := l.length) ⟨rfl, rfl, rfl, rfl, trivial⟩ ⟨0, rfl, rfl, Nat.zero_le _, hS⟩ ?_
  clear hS
  rintro _ w1 q ⟨i, rfl, rfl, hi, hS⟩
  (conv => whnf)
  refine brD (fun h3 => ?_) (fun h3 => ?_)
  · obtain ⟨x, hx⟩ : ∃ x, l[i]? = some x := ⟨_, List.getElem?_eq_getElem (by omega)⟩
    have hst := crcN_step hx
    have hlt := crcN_lt (l.take i)
    have hx8 := x.toNat_lt
    generalize crcN (l.take i) = c at hst hlt
    have hxl := xor_byte hlt x
    (conv => whnf)
    refine idxS Tryd.underlying9 rfl hx ?_
    (conv => whnf)
    refine convI (kd := .u32) (m := (x.toNat : Int)) (by kernel_rfl) Tryd.underlying156 (by rw [IntKind.wrap_u32']; omega) ?_
    (conv => whnf)
    refine xorC32 hlt (by omega) ?_
    (conv => whnf)
    refine loopR tabOk (fun σ w' q => ∃ j : Nat, σ = [(16, .int .i64 j), (7, .int .i64 i), (6, .int .i64 (l.length : Nat)), (3, .int .u32 (crcIt j (c ^^^ x.toNat) : Nat)), (0, .string (bs l))] ∧ q = 8 - j ∧ j ≤ 8 ∧ St w No w' [])
      (σ' := [(16, .int .i64 ((0 : Nat) : Int)), (7, .int .i64 i), (6, .int .i64 (l.length : Nat)), (3, .int .u32 (crcIt 0 (c ^^^ x.toNat) : Nat)), (0, .string (bs l))]) (n := 8) ⟨rfl, rfl, rfl, rfl, rfl, trivial⟩ ⟨0, rfl, rfl, Nat.zero_le _, hS⟩ ?_
    clear hS
    rintro _ w2 q ⟨j, rfl, rfl, hj, hS⟩
    have hd := crcIt_lt hxl j
    have hd2 := crcIt_lt hxl (j + 1)
    have hdd : crcIt (j + 1) (c ^^^ x.toNat) = crcBit (crcIt j (c ^^^ x.toNat)) := rfl
    have h88 : crcByte c x = crcIt 8 (c ^^^ x.toNat) := rfl
    (conv => whnf)
    refine brD (fun h4 => ?_) (fun h4 => ?_)
    · generalize crcIt j (c ^^^ x.toNat) = d at hd hdd
      have h1 := and1_le d
      have h2 : 3988292384 * (d &&& 1) ≤ 3988292384 * 1 := Nat.mul_le_mul_left _ h1
      (conv => whnf)
      refine shrN (n := 1) rfl (by decide) ?_
      (conv => whnf)
      refine andC32 (b := 1) hd (by omega) ?_
      (conv => whnf)
      refine mulC32 (a := 3988292384) (by omega) ?_
      (conv => whnf)
      refine xorC32 (by omega) (by omega) ?_
      (conv => whnf)
      refine RngC.mk (by omega) (by omega) ?_
      (conv => whnf)
      refine LoopE.mk ⟨_, [(16, .int .i64 ((j + 1 : Nat) : Int)), (7, _), (6, _), (3, .int .u32 (crcIt (j + 1) (c ^^^ x.toNat) : Nat)), (0, _)], ?_, ⟨rfl, rfl, rfl, by rw [hdd]; rfl, rfl, trivial⟩, ⟨j + 1, rfl, rfl, by omega, hS⟩⟩
      omega
    · obtain rfl : j = 8 := by omega
      rw [← h88, ← hst]
      (conv => whnf)
      refine RngC.mk (by omega) (by omega) ?_
      (conv => whnf)
      refine LoopE.mk ⟨_, [(7, .int .i64 ((i + 1 : Nat) : Int)), (6, _), (3, _), (0, _)], ?_, ⟨rfl, rfl, rfl, rfl, trivial⟩, ⟨i + 1, rfl, rfl, by omega, hS⟩⟩
      omega
  · obtain rfl : i = l.length := by omega
    rw [List.take_length]
    have h1 := crcN_lt l
    have h2 := sumB_lt l
    (conv => whnf)
    refine notC32 h1 ?_
    (conv => whnf)
    refine convI (kd := .i64) (m := (sumB l : Nat)) (by kernel_rfl) Tryd.underlying3 (by rw [IntKind.wrap_i64]; unfold sumB at h2 ⊢; omega) ?_
    repeat' ((conv => whnf); first | refine RetC.mk ?_ | refine NzC.mk (by decide) ?_ | refine RngC.mk (by omega) (by omega) ?_ | refine IdxC.mk (by omega) (by omega) ?_ | refine brD (fun _ => ?_) (fun _ => ?_) | refine brND (fun _ => ?_) (fun _ => ?_) | refine brN (fun _ => ?_) (fun _ => ?_) | refine brI (fun _ => ?_) (fun _ => ?_))
    exact ⟨rfl, hS.ext⟩

def headB (n e l : Nat) : List UInt8 := numB n 4 ++ numB e 4 ++ numB l 4
def bodyB (n e l : Nat) : List UInt8 := headB n e l ++ numB (sumB (headB n e l)) 4
theorem headB_len (n e l : Nat) : (headB n e l).length = 12 := by simp [headB, numB_len]
theorem bodyB_len (n e l : Nat) : (bodyB n e l).length = 16 := by simp [bodyB, headB_len, numB_len]
theorem body_ok (n e l : Nat) (hn : n < 9223372036854775808) (he : e < 9223372036854775808) (hl : l < 9223372036854775808) (w : World) :
    CallC Tryd.prog 79 #[.int .i64 (n : Int), .int .i64 (e : Int), .int .i64 (l : Int)] w fun v w' => v = .string (bs (bodyB n e l)) ∧ Ext No w w' := by
  have hs := sumB_lt (headB n e l)
  refine fn_intro tabOk Tryd.func79 (by kernel_rfl) rfl Tryd.ntmps79 (Nat.le_of_ble_eq_true rfl) ?_
  have hS := St.start w No
  (conv => whnf)
  refine (number_ok n 4 (by omega) hn _).mono ?_
  rintro v w' ⟨rfl, hx⟩
  replace hS := hS.no hx
  (conv => whnf)
  refine (number_ok e 4 (by omega) he _).mono ?_
  rintro v w' ⟨rfl, hx⟩
  replace hS := hS.no hx
  (conv => whnf)
  refine addS (by simp [numB_len]) ?_
  (conv => whnf)
  refine (number_ok l 4 (by omega) hl _).mono ?_
  rintro v w' ⟨rfl, hx⟩
  replace hS := hS.no hx
  (conv => whnf)
  refine addS (by simp [numB_len]) ?_
  rw [show numB n 4 ++ numB e 4 ++ numB l 4 = headB n e l from rfl]
  (conv => whnf)
  refine (sum_ok (headB n e l) (by rw [headB_len]; omega) _).mono ?_
  rintro v w' ⟨rfl, hx⟩
  replace hS := hS.no hx
  (conv => whnf)
  refine (number_ok (sumB (headB n e l)) 4 (by omega) (by omega) _).mono ?_
  rintro v w' ⟨rfl, hx⟩
  replace hS := hS.no hx
  (conv => whnf)
  refine addS (by simp [numB_len, headB_len]) ?_
  repeat' ((conv => whnf); first | refine RetC.mk ?_ | refine NzC.mk (by decide) ?_ | refine RngC.mk (by omega) (by omega) ?_ | refine IdxC.mk (by omega) (by omega) ?_ | refine brD (fun _ => ?_) (fun _ => ?_) | refine brND (fun _ => ?_) (fun _ => ?_) | refine brN (fun _ => ?_) (fun _ => ?_) | refine brI (fun _ => ?_) (fun _ => ?_))
  exact ⟨rfl, hS.ext⟩
end Go.Proofs.YteakdmngllfodaaDoor
