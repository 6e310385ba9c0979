
/-
  The reference's numbers as bytes, walked: Byte, Wide, value.
-/
import Derived.Test.YteakdmngllfodaaDoorSum
namespace Go.Proofs.YteakdmngllfodaaDoor
open Go Ev

theorem rbyte_ok (n : Nat) (hn : n < 256) (w : World) : CallC Tryd.prog 83 #[.int .i64 (n : Int)] w fun v w' => v = .string (bs [UInt8.ofNat n]) ∧ Ext No w w' := by
  have hb : ((UInt8.ofNat n).toNat : Int) = (n : Int) := by rw [byte_of]; omega
  refine fn_intro tabOk Tryd.func83 (by kernel_rfl) rfl Tryd.ntmps83 (Nat.le_of_ble_eq_true rfl) ?_
  have hS := St.start w No
  (conv => whnf)
  refine convI (kd := .u8) (m := ((UInt8.ofNat n).toNat : Int)) (by kernel_rfl) Tryd.underlying5 (by rw [IntKind.wrap_u8', hb]; omega) ?_
  (conv => whnf)
  refine hS.lit (cs := encU (UInt8.ofNat n)) Tryd.underlying87 (sz := 1) (by kernel_rfl) (z := .int .u8 0) (by kernel_rfl) rfl rfl (by rfl) (fun bz w' hbz hS => ?_)
  have h0 : CellsAt w' bz 0 ([UInt8.ofNat n].flatMap encU) := (hS.blk 0 rfl).cells rfl
  (conv => whnf)
  refine strC Tryd.underlying87 Tryd.underlying5 Tryd.underlying9 h0 rfl ?_
  repeat' ((conv => whnf); first | refine RetC.mk ?_ | refine NzC.mk (by decide) ?_ | refine RngC.mk (by omega) (by omega) ?_ | refine IdxC.mk (by omega) (by omega) ?_ | refine brD (fun _ => ?_) (fun _ => ?_) | refine brND (fun _ => ?_) (fun _ => ?_) | refine brN (fun _ => ?_) (fun _ => ?_) | refine brI (fun _ => ?_) (fun _ => ?_))
  exact ⟨rfl, hS.ext⟩
theorem numB_head (n m : Nat) : numB n (m + 1) = UInt8.ofNat (n / 256 ^ m) :: numB n m := by
  unfold numB
  rw [List.range_succ_eq_map, List.map_cons, List.map_map]
  congr 1
  apply List.map_congr_left
  intro j hj
  have hj := List.mem_range.1 hj
  simp only [Function.comp]
  rw [show m + 1 - 1 - (j + 1) = m - 1 - j by omega]
theorem wide_ok (n m : Nat) (hm : m ≤ 100) (hn : n < 9223372036854775808) (w : World) :
    CallC Tryd.prog 93 #[.int .i64 (n : Int), .int .i64 (m : Int)] w fun v w' => v = .string (bs (numB n m)) ∧ Ext No w w' := by
  refine fn_intro tabOk Tryd.func93 (by kernel_rfl) rfl Tryd.ntmps93 (Nat.le_of_ble_eq_true rfl) ?_
  have hS := St.start w No
  (conv => whnf)
  refine loopR tabOk (fun σ w' q => ∃ i : Nat, σ = [(6, .int .i64 i), (5, .string (bs (numB n i))), (1, .int .i64 m), (0, .int .i64 (n / 256 ^ i : Nat))] ∧ q = m - i ∧ i ≤ m ∧ St w No w' [])
    (σ' := [(6, .int .i64 ((0 : Nat) : Int)), (5, .string (bs (numB n 0))), (1, .int .i64 m), (0, .int .i64 n)]) (n := m) ⟨rfl, rfl, rfl, rfl, trivial⟩ ⟨0, by simp, rfl, Nat.zero_le _, hS⟩ ?_
  clear hS
  rintro _ w1 q ⟨i, rfl, rfl, hi, hS⟩
  have hle : n / 256 ^ i ≤ n := Nat.div_le_self _ _
  have hst := numB_head n i
  have hdd : n / 256 ^ (i + 1) = n / 256 ^ i / 256 := by rw [Nat.pow_succ, Nat.div_div_eq_div_mul]
  have hof : UInt8.ofNat (n / 256 ^ i) = UInt8.ofNat (n / 256 ^ i % 256) := by
    apply UInt8.toNat_inj.1
    rw [UInt8.toNat_ofNat', UInt8.toNat_ofNat']
    omega
  generalize n / 256 ^ i = d at hle hst hdd hof
  (conv => whnf)
  refine brD (fun h3 => ?_) (fun h3 => ?_)
  · have hm1 : (d : Int).tmod 256 = ((d % 256 : Nat) : Int) := by rw [Int.tmod_eq_emod_of_nonneg (by omega)]; omega
    have hd1 : (d : Int).tdiv 256 = ((d / 256 : Nat) : Int) := by rw [Int.tdiv_eq_ediv_of_nonneg (by omega)]; omega
    (conv => whnf)
    refine NzC.mk (by decide) ?_
    rw [hm1]
    (conv => whnf)
    refine (rbyte_ok (d % 256) (by omega) _).mono ?_
    rintro v w' ⟨rfl, hx⟩
    replace hS := hS.no hx
    (conv => whnf)
    refine addS (by rw [numB_len]; simp; omega) ?_
    rw [← hof, List.singleton_append, ← hst]
    (conv => whnf)
    refine NzC.mk (by decide) ?_
    rw [hd1]
    (conv => whnf)
    refine RngC.mk (by omega) (by omega) ?_
    (conv => whnf)
    refine RngC.mk (by omega) (by omega) ?_
    (conv => whnf)
    refine LoopE.mk ⟨_, [(6, .int .i64 ((i + 1 : Nat) : Int)), (5, _), (1, _), (0, .int .i64 (n / 256 ^ (i + 1) : Nat))], ?_, ⟨rfl, rfl, rfl, by rw [hdd]; rfl, trivial⟩, ⟨i + 1, rfl, rfl, by omega, hS⟩⟩
    omega
  · obtain rfl : i = m := by omega
    repeat' ((conv => whnf); first | refine RetC.mk ?_ | refine NzC.mk (by decide) ?_ | refine RngC.mk (by omega) (by omega) ?_ | refine IdxC.mk (by omega) (by omega) ?_ | refine brD (fun _ => ?_) (fun _ => ?_) | refine brND (fun _ => ?_) (fun _ => ?_) | refine brN (fun _ => ?_) (fun _ => ?_) | refine brI (fun _ => ?_) (fun _ => ?_))
    exact ⟨rfl, hS.ext⟩
end Go.Proofs.YteakdmngllfodaaDoor
