/-
  Texts of this claim, joined: ItoaG, ItoaH, ItoaI, UnsG, JoinG, JoinH, JoinI, JoinJ, JoinK, JoinL, JoinM, JoinN, ShelfC, PolicyT, Dec, CutS, RuleS, TextS.
-/
import Derived.Test.YtgcbcagaibecbaaGreatDoorSideReadsF
import Derived.Lib.LaidTab
import Derived.Lib.ItoaNum
import Derived.Laws.MathBits
import Derived.Laws.Slices
import Derived.Lib.UnsafeStr
import Derived.Lib.AppendStr
import Derived.Lib.MakeNoZero
import Derived.Lib.Builder
import Derived.Conc.SmallLaws
import Derived.Laws.IdiomCopy
import Derived.Lib.Join
import Derived.Lib.ItoaLen
import Derived.Lib.AtoiAll
import Derived.Lib.SplitLaws
set_option linter.unusedSectionVars false
set_option linter.unusedSimpArgs false
set_option linter.unusedVariables false

namespace Go.Proofs.YtgcbcagaibecbaaGreatDoor
set_option maxRecDepth 20000
open Go Ev Go.RowKit
variable [Go.Proofs.YtgcbcagaibecbaaGreatDoor.Gap.Leaps]

def Pow10 (w : World) : Prop := ∀ i : Nat, i < 20 → w.cell? ⟨18, i, none⟩ = some (.int .u64 ((10 ^ i : Nat) : Int))
theorem Pow10.no {w w' : World} (h : Pow10 w) (hx : Ext No w w') : Pow10 w' := fun i hi => hx.cell (h i hi) id
theorem Pow10.at_ {w : World} (h : Pow10 w) {i : Nat} (hi : i < 20) : w.cell? ⟨18, i, none⟩ = some (.int .u64 ((10 ^ i : Nat) : Int)) := h i hi
theorem pow10_tab {w : World} (h : Lib.TabIs Tryz.prog w "internal/strconv.uint64pow10" .u64 Lib.pow10Tab) : Pow10 w := by
  intro i hi
  have hg : Tryz.prog.globalNamed "internal/strconv.uint64pow10" = some 18 := by kernel_rfl
  have := World.var?_cell hg h i
  rw [this]
  have h2 := Lib.pow10Tab_at i hi
  simp only [List.getD] at h2
  have hl : i < Lib.pow10Tab.length := by rw [Lib.pow10Tab_length]; exact hi
  rw [List.getElem?_toArray, List.getElem?_map, List.getElem?_eq_getElem hl]
  rw [List.getElem?_eq_getElem hl] at h2
  simp only [Option.getD_some] at h2
  simp [h2]

section
variable {P : Program} {k : Value → Prop} {t : TypeId} {kd : IntKind}
theorem geC {a b : Int} (hk : k (.bool (decide (a ≥ b)))) : PureC P (Go.binOp .geq t (.int kd a) (.int kd b)) k :=
  PureC.of (fun w => by simp [Go.binOp, Op.intCmp]) hk
theorem gtC {a b : Int} (hk : k (.bool (decide (a > b)))) : PureC P (Go.binOp .gtr t (.int kd a) (.int kd b)) k :=
  PureC.of (fun w => by simp [Go.binOp, Op.intCmp]) hk
theorem arC {op : BinOp} {a b m : Int} (ho : op = .add ∨ op = .sub ∨ op = .mul) (hw : kd.wrap (match op with | .add => a + b | .sub => a - b | _ => a * b) = m) (hk : k (.int kd m)) : PureC P (Go.binOp op t (.int kd a) (.int kd b)) k :=
  PureC.of (fun w => by
    subst hw
    rcases ho with rfl | rfl | rfl <;> simp [Go.binOp, Op.intArith]) hk
theorem quoN {x y : Int} {a b : Nat} (hx : x = a) (hy : y = b) (hb : b ≠ 0) (hw : kd.wrap ((a / b : Nat) : Int) = ((a / b : Nat) : Int)) (hk : k (.int kd ((a / b : Nat) : Int))) : PureC P (Go.binOp .quo t (.int kd x) (.int kd y)) k :=
  PureC.of (fun w => by
    subst hx hy
    rw [show Go.binOp .quo t (.int kd (a : Int)) (.int kd (b : Int)) = Op.intDiv .quo kd (a : Int) (b : Int) by simp [Go.binOp]]
    unfold Op.intDiv
    rw [if_neg (by omega)]
    show (pure (Value.int kd (kd.wrap ((a : Int).tdiv (b : Int)))) : Sem Value).run P w = _
    rw [Int.tdiv_eq_ediv_of_nonneg (by omega), show ((a : Int) / (b : Int)) = ((a / b : Nat) : Int) by simp, hw]
    rfl) hk
theorem remN {x y : Int} {a b : Nat} (hx : x = a) (hy : y = b) (hb : b ≠ 0) (hk : k (.int kd ((a % b : Nat) : Int))) : PureC P (Go.binOp .rem t (.int kd x) (.int kd y)) k :=
  PureC.of (fun w => by
    subst hx hy
    rw [show Go.binOp .rem t (.int kd (a : Int)) (.int kd (b : Int)) = Op.intDiv .rem kd (a : Int) (b : Int) by simp [Go.binOp]]
    unfold Op.intDiv
    rw [if_neg (by omega)]
    show (pure (Value.int kd ((a : Int).tmod (b : Int))) : Sem Value).run P w = _
    rw [Int.tmod_eq_emod_of_nonneg (by omega), show ((a : Int) % (b : Int)) = ((a % b : Nat) : Int) by simp]
    rfl) hk
theorem mulN {x y : Int} {a b : Nat} (hx : x = a) (hy : y = b) (hw : kd.wrap ((a * b : Nat) : Int) = ((a * b : Nat) : Int)) (hk : k (.int kd ((a * b : Nat) : Int))) : PureC P (Go.binOp .mul t (.int kd x) (.int kd y)) k :=
  arC (.inr (.inr rfl)) (by subst hx hy; simpa using hw) hk
theorem addN {x y : Int} {a b : Nat} (hx : x = a) (hy : y = b) (hw : kd.wrap ((a + b : Nat) : Int) = ((a + b : Nat) : Int)) (hk : k (.int kd ((a + b : Nat) : Int))) : PureC P (Go.binOp .add t (.int kd x) (.int kd y)) k :=
  arC (.inl rfl) (by subst hx hy; simpa using hw) hk
end

def len8L : List UInt8 := Lib.len8tab.data.toList
theorem len8L_at : ∀ n : Fin 256, len8L[n.val]? = some (UInt8.ofNat (Lib.bitLen n.val)) := by decide +kernel
theorem bitLen8 {n : Nat} (h : n < 256) : Lib.bitLen n ≤ 8 := Lib.bitLen_le8 ⟨n, h⟩
theorem len64_ok (u : Nat) (hu : u ≤ 99999) (w : World) : CallC Tryz.prog 119 #[.int .u64 (u : Int)] w fun v w' => v = .int .i64 (Lib.bitLen u : Int) ∧ w = w' := by
  have key : ∀ x : Nat, x < 256 → IntKind.u8.wrap (x : Int) = x := fun x hx => by rw [IntKind.wrap_u8']; omega
  have hb : ∀ x : Nat, x < 256 → ((UInt8.ofNat (Lib.bitLen x)).toNat : Int) = Lib.bitLen x := fun x hx => by
    have := bitLen8 hx
    rw [UInt8.toNat_ofNat']
    omega
  refine fn_intro tabOk Tryz.func119 (by kernel_rfl) rfl Tryz.ntmps119 (Nat.le_of_ble_eq_true rfl) ?_
  (conv => whnf)
  refine geC ?_
  (conv => whnf)
  refine brD (fun h => absurd h (by omega)) (fun _ => ?_)
  (conv => whnf)
  refine geC ?_
  (conv => whnf)
  refine brD (fun h => ?_) (fun h => ?_)
  · have e := Lib.bitLen_shift16 u (by omega) (by omega)
    (conv => whnf)
    refine shrN (n := 16) rfl (by decide) ?_
    have hlt : u / 2 ^ 16 < 256 := by omega
    have hl8 := bitLen8 hlt
    (conv => whnf)
    refine RngC.mk (by omega) (by omega) ?_
    (conv => whnf)
    refine geC ?_
    (conv => whnf)
    refine brD (fun h => absurd h (by omega)) (fun _ => ?_)
    (conv => whnf)
    refine convI (kd := .u8) (m := (((u / 2 ^ 16) : Nat) : Int)) (by kernel_rfl) Tryz.underlying5 (key (u / 2 ^ 16) hlt) ?_
    (conv => whnf)
    refine idxS (l := len8L) (j := (u / 2 ^ 16)) Tryz.underlying9 rfl (len8L_at ⟨(u / 2 ^ 16), hlt⟩) ?_
    (conv => whnf)
    refine convI (kd := .i64) (m := ((Lib.bitLen (u / 2 ^ 16) : Nat) : Int)) (by kernel_rfl) Tryz.underlying3 (by rw [hb (u / 2 ^ 16) hlt, IntKind.wrap_i64]; omega) ?_
    (conv => whnf)
    refine RngC.mk (by omega) (by omega) ?_
    repeat' ((conv => whnf); first | refine RetC.mk ?_ | refine NzC.mk (by decide) ?_ | refine RngC.mk (by omega) (by omega) ?_ | refine IdxC.mk (by omega) (by omega) ?_ | refine brD (fun _ => ?_) (fun _ => ?_) | refine brND (fun _ => ?_) (fun _ => ?_) | refine brN (fun _ => ?_) (fun _ => ?_) | refine brI (fun _ => ?_) (fun _ => ?_))
    exact ⟨by rw [e]; simp, rfl⟩
  · (conv => whnf)
    refine geC ?_
    (conv => whnf)
    refine brD (fun h => ?_) (fun h => ?_)
    · have e := Lib.bitLen_shift8 u (by omega) (by omega)
      (conv => whnf)
      refine shrN (n := 8) rfl (by decide) ?_
      have hlt : u / 2 ^ 8 < 256 := by omega
      have hl8 := bitLen8 hlt
      (conv => whnf)
      refine RngC.mk (by omega) (by omega) ?_
      (conv => whnf)
      refine convI (kd := .u8) (m := (((u / 2 ^ 8) : Nat) : Int)) (by kernel_rfl) Tryz.underlying5 (key (u / 2 ^ 8) hlt) ?_
      (conv => whnf)
      refine idxS (l := len8L) (j := (u / 2 ^ 8)) Tryz.underlying9 rfl (len8L_at ⟨(u / 2 ^ 8), hlt⟩) ?_
      (conv => whnf)
      refine convI (kd := .i64) (m := ((Lib.bitLen (u / 2 ^ 8) : Nat) : Int)) (by kernel_rfl) Tryz.underlying3 (by rw [hb (u / 2 ^ 8) hlt, IntKind.wrap_i64]; omega) ?_
      (conv => whnf)
      refine RngC.mk (by omega) (by omega) ?_
      repeat' ((conv => whnf); first | refine RetC.mk ?_ | refine NzC.mk (by decide) ?_ | refine RngC.mk (by omega) (by omega) ?_ | refine IdxC.mk (by omega) (by omega) ?_ | refine brD (fun _ => ?_) (fun _ => ?_) | refine brND (fun _ => ?_) (fun _ => ?_) | refine brN (fun _ => ?_) (fun _ => ?_) | refine brI (fun _ => ?_) (fun _ => ?_))
      exact ⟨by rw [e]; simp, rfl⟩
    · have hlt : u < 256 := by omega
      have hl8 := bitLen8 hlt
      (conv => whnf)
      refine convI (kd := .u8) (m := ((u : Nat) : Int)) (by kernel_rfl) Tryz.underlying5 (key u hlt) ?_
      (conv => whnf)
      refine idxS (l := len8L) (j := u) Tryz.underlying9 rfl (len8L_at ⟨u, hlt⟩) ?_
      (conv => whnf)
      refine convI (kd := .i64) (m := ((Lib.bitLen u : Nat) : Int)) (by kernel_rfl) Tryz.underlying3 (by rw [hb u hlt, IntKind.wrap_i64]; omega) ?_
      (conv => whnf)
      refine RngC.mk (by omega) (by omega) ?_
      repeat' ((conv => whnf); first | refine RetC.mk ?_ | refine NzC.mk (by decide) ?_ | refine RngC.mk (by omega) (by omega) ?_ | refine IdxC.mk (by omega) (by omega) ?_ | refine brD (fun _ => ?_) (fun _ => ?_) | refine brND (fun _ => ?_) (fun _ => ?_) | refine brN (fun _ => ?_) (fun _ => ?_) | refine brI (fun _ => ?_) (fun _ => ?_))
      exact ⟨by simp, rfl⟩
theorem log10_ok (x : Nat) (hx : x ≤ 64) (w : World) : CallC Tryz.prog 118 #[.int .i64 (x : Int)] w fun v w' => v = .int .i64 (Lib.l10 x : Int) ∧ w = w' := by
  refine fn_intro tabOk Tryz.func118 (by kernel_rfl) rfl Tryz.ntmps118 (Nat.le_of_ble_eq_true rfl) ?_
  (conv => whnf)
  refine RngC.mk (by omega) (by omega) ?_
  (conv => whnf)
  refine shrC (n := 18) rfl (by decide) ?_
  repeat' ((conv => whnf); first | refine RetC.mk ?_ | refine NzC.mk (by decide) ?_ | refine RngC.mk (by omega) (by omega) ?_ | refine IdxC.mk (by omega) (by omega) ?_ | refine brD (fun _ => ?_) (fun _ => ?_) | refine brND (fun _ => ?_) (fun _ => ?_) | refine brN (fun _ => ?_) (fun _ => ?_) | refine brI (fun _ => ?_) (fun _ => ?_))
  refine ⟨?_, rfl⟩
  unfold Lib.l10
  congr 1
theorem bool2_ok (b : Bool) (w : World) : CallC Tryz.prog 120 #[.bool b] w fun v w' => v = .int .i64 (if b = true then 1 else 0) ∧ w = w' := by
  refine fn_intro tabOk Tryz.func120 (by kernel_rfl) rfl Tryz.ntmps120 (Nat.le_of_ble_eq_true rfl) ?_
  cases b
  · repeat' ((conv => whnf); first | refine RetC.mk ?_ | refine NzC.mk (by decide) ?_ | refine RngC.mk (by omega) (by omega) ?_ | refine IdxC.mk (by omega) (by omega) ?_ | refine brD (fun _ => ?_) (fun _ => ?_) | refine brND (fun _ => ?_) (fun _ => ?_) | refine brN (fun _ => ?_) (fun _ => ?_) | refine brI (fun _ => ?_) (fun _ => ?_))
    exact ⟨rfl, rfl⟩
  · repeat' ((conv => whnf); first | refine RetC.mk ?_ | refine NzC.mk (by decide) ?_ | refine RngC.mk (by omega) (by omega) ?_ | refine IdxC.mk (by omega) (by omega) ?_ | refine brD (fun _ => ?_) (fun _ => ?_) | refine brND (fun _ => ?_) (fun _ => ?_) | refine brN (fun _ => ?_) (fun _ => ?_) | refine brI (fun _ => ?_) (fun _ => ?_))
    exact ⟨rfl, rfl⟩
theorem numDigits_ok (u : Nat) (h1 : 1 ≤ u) (hu : u ≤ 99999) (w : World) (ht : Pow10 w) : CallC Tryz.prog 111 #[.int .u64 (u : Int)] w fun v w' => v = .int .i64 (Lib.nDigits u : Int) ∧ w = w' := by
  obtain ⟨e1, e2⟩ := Lib.numDigits_eq u h1 (by omega)
  have e3 := Lib.bitLen_le u 64 (by decide) (by omega)
  refine fn_intro tabOk Tryz.func111 (by kernel_rfl) rfl Tryz.ntmps111 (Nat.le_of_ble_eq_true rfl) ?_
  (conv => whnf)
  refine (len64_ok u hu _).mono ?_
  rintro v w' ⟨rfl, rfl⟩
  (conv => whnf)
  refine (log10_ok _ e3 _).mono ?_
  rintro v w' ⟨rfl, rfl⟩
  (conv => whnf)
  refine IdxC.mk (by omega) (by omega) ?_
  (conv => whnf)
  refine ldc (ht.at_ (by omega)) ?_
  (conv => whnf)
  refine geC ?_
  (conv => whnf)
  refine (bool2_ok _ _).mono ?_
  rintro v w' ⟨rfl, rfl⟩
  (conv => whnf)
  refine RngC.mk (by split <;> omega) (by split <;> omega) ?_
  repeat' ((conv => whnf); first | refine RetC.mk ?_ | refine NzC.mk (by decide) ?_ | refine RngC.mk (by omega) (by omega) ?_ | refine IdxC.mk (by omega) (by omega) ?_ | refine brD (fun _ => ?_) (fun _ => ?_) | refine brND (fun _ => ?_) (fun _ => ?_) | refine brN (fun _ => ?_) (fun _ => ?_) | refine brI (fun _ => ?_) (fun _ => ?_))
  refine ⟨?_, rfl⟩
  rw [← e1]
  by_cases hc : 10 ^ Lib.l10 (Lib.bitLen u) ≤ u
  · simp only [Int.toNat_natCast, Nat.mul_one, Nat.zero_add]
    have : decide ((u : Int) ≥ ((10 ^ Lib.l10 (Lib.bitLen u) : Nat) : Int)) = true := decide_eq_true (by exact Int.ofNat_le.2 hc)
    rw [this, if_pos hc]
    rfl
  · simp only [Int.toNat_natCast, Nat.mul_one, Nat.zero_add]
    have : decide ((u : Int) ≥ ((10 ^ Lib.l10 (Lib.bitLen u) : Nat) : Int)) = false := decide_eq_false (fun h => hc (Int.ofNat_le.1 h))
    rw [this, if_neg hc]
    rfl

theorem small_ok (i : Nat) (hi : i < 100) (w : World) : CallC Tryz.prog 110 #[.int .i64 (i : Int)] w fun v w' => v = .string (bs (Lib.decDigits i)) ∧ w = w' := by
  refine fn_intro tabOk Tryz.func110 (by kernel_rfl) rfl Tryz.ntmps110 (Nat.le_of_ble_eq_true rfl) ?_
  (conv => whnf)
  refine brD (fun h => ?_) (fun h => ?_)
  · have h : i < 10 := by omega
    (conv => whnf)
    refine RngC.mk (by omega) (by omega) ?_
    (conv => whnf)
    refine slcS (l := Lib.digits36.data.toList) (a := i) (b := i + 1) Tryz.underlying9 rfl (by simp) (by omega) (by show i + 1 ≤ 36; omega) (Lib.digits36_piece h) ?_
    repeat' ((conv => whnf); first | refine RetC.mk ?_ | refine NzC.mk (by decide) ?_ | refine RngC.mk (by omega) (by omega) ?_ | refine IdxC.mk (by omega) (by omega) ?_ | refine brD (fun _ => ?_) (fun _ => ?_) | refine brND (fun _ => ?_) (fun _ => ?_) | refine brN (fun _ => ?_) (fun _ => ?_) | refine brI (fun _ => ?_) (fun _ => ?_))
    exact ⟨rfl, rfl⟩
  · have h : ¬ i < 10 := by omega
    (conv => whnf)
    refine RngC.mk (by omega) (by omega) ?_
    (conv => whnf)
    refine RngC.mk (by omega) (by omega) ?_
    (conv => whnf)
    refine RngC.mk (by omega) (by omega) ?_
    (conv => whnf)
    refine slcS (l := Lib.smalls.data.toList) (a := i * 2) (b := i * 2 + 2) Tryz.underlying9 (by simp) (by simp) (by omega) (by show i * 2 + 2 ≤ 200; omega) (Lib.smalls_piece h hi) ?_
    repeat' ((conv => whnf); first | refine RetC.mk ?_ | refine NzC.mk (by decide) ?_ | refine RngC.mk (by omega) (by omega) ?_ | refine IdxC.mk (by omega) (by omega) ?_ | refine brD (fun _ => ?_) (fun _ => ?_) | refine brND (fun _ => ?_) (fun _ => ?_) | refine brN (fun _ => ?_) (fun _ => ?_) | refine brI (fun _ => ?_) (fun _ => ?_))
    exact ⟨rfl, rfl⟩
def smL : List UInt8 := Lib.smalls.data.toList
theorem smL_hi (p : Nat) (h : p < 100) : smL[p * 2]? = some (UInt8.ofNat (48 + p / 10)) := by
  have h1 : p * 2 < smL.length := by show p * 2 < 200; omega
  rw [← Lib.sm_hi p h, List.getElem?_eq_getElem h1]
  unfold Lib.sm
  rw [List.getD_eq_getElem?_getD]
  show some _ = some ((smL[p * 2]?).getD 0)
  rw [List.getElem?_eq_getElem h1]
  rfl
theorem smL_lo (p : Nat) (h : p < 100) : smL[p * 2 + 1]? = some (UInt8.ofNat (48 + p % 10)) := by
  have h1 : p * 2 + 1 < smL.length := by show p * 2 + 1 < 200; omega
  rw [← Lib.sm_lo p h, List.getElem?_eq_getElem h1]
  unfold Lib.sm
  rw [List.getD_eq_getElem?_getD]
  show some _ = some ((smL[p * 2 + 1]?).getD 0)
  rw [List.getElem?_eq_getElem h1]
  rfl
end Go.Proofs.YtgcbcagaibecbaaGreatDoor

namespace Go.Proofs.YtgcbcagaibecbaaGreatDoor
set_option maxRecDepth 20000
open Go Ev Go.RowKit
variable [Go.Proofs.YtgcbcagaibecbaaGreatDoor.Gap.Leaps]

def dv (x : UInt8) : Value := .int .u8 (x.toNat : Int)
section
variable {ty : TypeId} {u c b : Nat} {c0 c1 c2 c3 c4 c5 : Value} {rest : List Value} {w : World}
theorem fmt1 (hu : u < 10) (hb : Blk w b ty (c0 :: c1 :: c2 :: c3 :: c4 :: c5 :: rest)) :
    CallC Tryz.prog 112 #[.slice (some ⟨b, 1, none⟩) 1 c, .int .u64 (u : Int)] w fun _ w' => Ext (· = b) w w' ∧ Blk w' b ty (c0 :: dv (.ofNat (48 + u)) :: c2 :: c3 :: c4 :: c5 :: rest) := by
  have hu5 : u < 100000 := by omega
  have key : ∀ x : Nat, x < 100000 → IntKind.u32.wrap (x : Int) = x := fun x hx => by rw [IntKind.wrap_u32']; omega
  have key8 : ∀ x : Nat, x < 10 → IntKind.u8.wrap ((48 + x : Nat) : Int) = ((UInt8.ofNat (48 + x)).toNat : Int) := fun x hx => by rw [IntKind.wrap_u8', UInt8.toNat_ofNat']; omega
  have hS := (St.start w (· = b)).add (blk_local b _ _) hb (by simp [blk]; exact hb.lt) (by simp)
  have uStr := Tryz.underlying9
  refine fn_intro tabOk Tryz.func112 (by kernel_rfl) rfl Tryz.ntmps112 (Nat.le_of_ble_eq_true rfl) ?_
  (conv => whnf)
  refine loopR tabOk (fun σ w' q => σ = [(4, .int .i64 ((1 : Nat) : Int)), (1, .int .u64 (u : Int)), (0, .slice (some ⟨b, 1, none⟩) 1 c)] ∧ q = 0 ∧ St w (· = b) w' [Ev.blk b ty (c0 :: c1 :: c2 :: c3 :: c4 :: c5 :: rest)])
    (σ' := [(4, .int .i64 ((1 : Nat) : Int)), (1, .int .u64 (u : Int)), (0, .slice (some ⟨b, 1, none⟩) 1 c)]) (n := 0) ⟨rfl, rfl, rfl, trivial⟩ ⟨rfl, rfl, hS⟩ ?_
  clear hS
  rintro _ w1 q ⟨rfl, rfl, hS⟩
  (conv => whnf)
  refine convI (kd := .u32) (m := (u : Int)) (by kernel_rfl) Tryz.underlying72 (key u hu5) ?_
  (conv => whnf)
  refine addN (a := 48) (b := u) rfl rfl (key _ (by omega)) ?_
  (conv => whnf)
  refine convI (kd := .u8) (m := ((UInt8.ofNat (48 + u)).toNat : Int)) (by kernel_rfl) Tryz.underlying5 (key8 _ (by omega)) ?_
  (conv => whnf)
  refine IdxC.mk (by omega) (by omega) ?_
  (conv => whnf)
  refine hS.st 0 rfl (by simp [cellsL]) rfl (fun w' hS => ?_)
  replace hS : St w (· = b) w' [Ev.blk b ty (c0 :: dv (.ofNat (48 + u)) :: c2 :: c3 :: c4 :: c5 :: rest)] := hS
  repeat' ((conv => whnf); first | refine RetC.mk ?_ | refine NzC.mk (by decide) ?_ | refine RngC.mk (by omega) (by omega) ?_ | refine IdxC.mk (by omega) (by omega) ?_ | refine brD (fun _ => ?_) (fun _ => ?_) | refine brND (fun _ => ?_) (fun _ => ?_) | refine brN (fun _ => ?_) (fun _ => ?_) | refine brI (fun _ => ?_) (fun _ => ?_))
  exact ⟨hS.ext, hS.blk 0 rfl⟩
theorem fmt2 (hu : u < 100) (hb : Blk w b ty (c0 :: c1 :: c2 :: c3 :: c4 :: c5 :: rest)) :
    CallC Tryz.prog 112 #[.slice (some ⟨b, 1, none⟩) 2 c, .int .u64 (u : Int)] w fun _ w' => Ext (· = b) w w' ∧ Blk w' b ty (c0 :: dv (.ofNat (48 + u % 100 / 10)) :: dv (.ofNat (48 + u % 100 % 10)) :: c3 :: c4 :: c5 :: rest) := by
  have hu5 : u < 100000 := by omega
  have key : ∀ x : Nat, x < 100000 → IntKind.u32.wrap (x : Int) = x := fun x hx => by rw [IntKind.wrap_u32']; omega
  have key8 : ∀ x : Nat, x < 10 → IntKind.u8.wrap ((48 + x : Nat) : Int) = ((UInt8.ofNat (48 + x)).toNat : Int) := fun x hx => by rw [IntKind.wrap_u8', UInt8.toNat_ofNat']; omega
  have hS := (St.start w (· = b)).add (blk_local b _ _) hb (by simp [blk]; exact hb.lt) (by simp)
  have uStr := Tryz.underlying9
  refine fn_intro tabOk Tryz.func112 (by kernel_rfl) rfl Tryz.ntmps112 (Nat.le_of_ble_eq_true rfl) ?_
  (conv => whnf)
  refine loopR tabOk (fun σ w' q => σ = [(4, .int .i64 ((2 : Nat) : Int)), (1, .int .u64 (u : Int)), (0, .slice (some ⟨b, 1, none⟩) 2 c)] ∧ q = 0 ∧ St w (· = b) w' [Ev.blk b ty (c0 :: c1 :: c2 :: c3 :: c4 :: c5 :: rest)])
    (σ' := [(4, .int .i64 ((2 : Nat) : Int)), (1, .int .u64 (u : Int)), (0, .slice (some ⟨b, 1, none⟩) 2 c)]) (n := 0) ⟨rfl, rfl, rfl, trivial⟩ ⟨rfl, rfl, hS⟩ ?_
  clear hS
  rintro _ w1 q ⟨rfl, rfl, hS⟩
  (conv => whnf)
  refine convI (kd := .u32) (m := (u : Int)) (by kernel_rfl) Tryz.underlying72 (key u hu5) ?_
  (conv => whnf)
  refine remN (a := u) (b := 100) rfl rfl (by decide) ?_
  (conv => whnf)
  refine mulN (a := u % 100) (b := 2) rfl rfl (key _ (by omega)) ?_
  (conv => whnf)
  refine quoN (a := u) (b := 100) rfl rfl (by decide) (key _ (by omega)) ?_
  (conv => whnf)
  (refine drawS tabOk mixed [] ((· = b)) [0, 1, 2, 3, 4, 5, 6, 7, 8, 9, 10, 11, 12, 13, 14] (by kernel_rfl) ?_; rintro w1 rfl; replace hS := hS.drew)
  repeat' ((conv => whnf); first | refine RetC.mk ?_ | refine NzC.mk (by decide) ?_ | refine RngC.mk (by omega) (by omega) ?_ | refine IdxC.mk (by omega) (by omega) ?_ | refine RngC.mk (by omega) (by omega) ?_ | refine addN (a := u % 100 * 2) (b := 1) rfl rfl (key _ (by omega)) ?_ | refine idxS (l := smL) (j := u % 100 * 2 + 1) uStr rfl (smL_lo (u % 100) (by omega)) ?_ | refine idxS (l := smL) (j := u % 100 * 2) uStr rfl (smL_hi (u % 100) (by omega)) ?_ | refine IdxC.mk (by omega) (by omega) ?_ | refine brD (fun _ => ?_) (fun _ => ?_) | refine brND (fun _ => ?_) (fun _ => ?_) | refine brN (fun _ => ?_) (fun _ => ?_) | refine brI (fun _ => ?_) (fun _ => ?_))
  (conv => whnf)
  refine hS.stX 0 rfl (by simp [cellsL]) rfl (fun w' hx1 hS => ?_)
  replace hS : St w (· = b) w' [Ev.blk b ty (c0 :: c1 :: dv (.ofNat (48 + u % 100 % 10)) :: c3 :: c4 :: c5 :: rest)] := hS
  refine KeepC.mk hx1 ?_
  repeat' ((conv => whnf); first | refine RetC.mk ?_ | refine NzC.mk (by decide) ?_ | refine RngC.mk (by omega) (by omega) ?_ | refine IdxC.mk (by omega) (by omega) ?_ | refine RngC.mk (by omega) (by omega) ?_ | refine IdxC.mk (by omega) (by omega) ?_ | refine brD (fun _ => ?_) (fun _ => ?_) | refine brND (fun _ => ?_) (fun _ => ?_) | refine brN (fun _ => ?_) (fun _ => ?_) | refine brI (fun _ => ?_) (fun _ => ?_))
  (conv => whnf)
  refine hS.stX 0 rfl (by simp [cellsL]) rfl (fun w' hx2 hS => ?_)
  replace hS : St w (· = b) w' [Ev.blk b ty (c0 :: dv (.ofNat (48 + u % 100 / 10)) :: dv (.ofNat (48 + u % 100 % 10)) :: c3 :: c4 :: c5 :: rest)] := hS
  refine KeepC.mk (hx1.trans hx2) ?_
  clear hx1 hx2
  (conv => whnf)
  refine RngC.mk (by omega) (by omega) ?_
  repeat' ((conv => whnf); first | refine RetC.mk ?_ | refine NzC.mk (by decide) ?_ | refine RngC.mk (by omega) (by omega) ?_ | refine IdxC.mk (by omega) (by omega) ?_ | refine brD (fun _ => ?_) (fun _ => ?_) | refine brND (fun _ => ?_) (fun _ => ?_) | refine brN (fun _ => ?_) (fun _ => ?_) | refine brI (fun _ => ?_) (fun _ => ?_))
  exact ⟨hS.ext, hS.blk 0 rfl⟩
theorem fmt3 (hu : u < 1000) (hb : Blk w b ty (c0 :: c1 :: c2 :: c3 :: c4 :: c5 :: rest)) :
    CallC Tryz.prog 112 #[.slice (some ⟨b, 1, none⟩) 3 c, .int .u64 (u : Int)] w fun _ w' => Ext (· = b) w w' ∧ Blk w' b ty (c0 :: dv (.ofNat (48 + u / 100)) :: dv (.ofNat (48 + u % 100 / 10)) :: dv (.ofNat (48 + u % 100 % 10)) :: c4 :: c5 :: rest) := by
  have hu5 : u < 100000 := by omega
  have key : ∀ x : Nat, x < 100000 → IntKind.u32.wrap (x : Int) = x := fun x hx => by rw [IntKind.wrap_u32']; omega
  have key8 : ∀ x : Nat, x < 10 → IntKind.u8.wrap ((48 + x : Nat) : Int) = ((UInt8.ofNat (48 + x)).toNat : Int) := fun x hx => by rw [IntKind.wrap_u8', UInt8.toNat_ofNat']; omega
  have hS := (St.start w (· = b)).add (blk_local b _ _) hb (by simp [blk]; exact hb.lt) (by simp)
  have uStr := Tryz.underlying9
  refine fn_intro tabOk Tryz.func112 (by kernel_rfl) rfl Tryz.ntmps112 (Nat.le_of_ble_eq_true rfl) ?_
  (conv => whnf)
  refine loopR tabOk (fun σ w' q => σ = [(4, .int .i64 ((3 : Nat) : Int)), (1, .int .u64 (u : Int)), (0, .slice (some ⟨b, 1, none⟩) 3 c)] ∧ q = 0 ∧ St w (· = b) w' [Ev.blk b ty (c0 :: c1 :: c2 :: c3 :: c4 :: c5 :: rest)])
    (σ' := [(4, .int .i64 ((3 : Nat) : Int)), (1, .int .u64 (u : Int)), (0, .slice (some ⟨b, 1, none⟩) 3 c)]) (n := 0) ⟨rfl, rfl, rfl, trivial⟩ ⟨rfl, rfl, hS⟩ ?_
  clear hS
  rintro _ w1 q ⟨rfl, rfl, hS⟩
  (conv => whnf)
  refine convI (kd := .u32) (m := (u : Int)) (by kernel_rfl) Tryz.underlying72 (key u hu5) ?_
  (conv => whnf)
  refine remN (a := u) (b := 100) rfl rfl (by decide) ?_
  (conv => whnf)
  refine mulN (a := u % 100) (b := 2) rfl rfl (key _ (by omega)) ?_
  (conv => whnf)
  refine quoN (a := u) (b := 100) rfl rfl (by decide) (key _ (by omega)) ?_
  (conv => whnf)
  (refine drawS tabOk mixed [] ((· = b)) [0, 1, 2, 3, 4, 5, 6, 7, 8, 9, 10, 11, 12, 13, 14] (by kernel_rfl) ?_; rintro w1 rfl; replace hS := hS.drew)
  repeat' ((conv => whnf); first | refine RetC.mk ?_ | refine NzC.mk (by decide) ?_ | refine RngC.mk (by omega) (by omega) ?_ | refine IdxC.mk (by omega) (by omega) ?_ | refine RngC.mk (by omega) (by omega) ?_ | refine addN (a := u % 100 * 2) (b := 1) rfl rfl (key _ (by omega)) ?_ | refine idxS (l := smL) (j := u % 100 * 2 + 1) uStr rfl (smL_lo (u % 100) (by omega)) ?_ | refine idxS (l := smL) (j := u % 100 * 2) uStr rfl (smL_hi (u % 100) (by omega)) ?_ | refine IdxC.mk (by omega) (by omega) ?_ | refine brD (fun _ => ?_) (fun _ => ?_) | refine brND (fun _ => ?_) (fun _ => ?_) | refine brN (fun _ => ?_) (fun _ => ?_) | refine brI (fun _ => ?_) (fun _ => ?_))
  (conv => whnf)
  refine hS.stX 0 rfl (by simp [cellsL]) rfl (fun w' hx1 hS => ?_)
  replace hS : St w (· = b) w' [Ev.blk b ty (c0 :: c1 :: c2 :: dv (.ofNat (48 + u % 100 % 10)) :: c4 :: c5 :: rest)] := hS
  refine KeepC.mk hx1 ?_
  repeat' ((conv => whnf); first | refine RetC.mk ?_ | refine NzC.mk (by decide) ?_ | refine RngC.mk (by omega) (by omega) ?_ | refine IdxC.mk (by omega) (by omega) ?_ | refine RngC.mk (by omega) (by omega) ?_ | refine IdxC.mk (by omega) (by omega) ?_ | refine brD (fun _ => ?_) (fun _ => ?_) | refine brND (fun _ => ?_) (fun _ => ?_) | refine brN (fun _ => ?_) (fun _ => ?_) | refine brI (fun _ => ?_) (fun _ => ?_))
  (conv => whnf)
  refine hS.stX 0 rfl (by simp [cellsL]) rfl (fun w' hx2 hS => ?_)
  replace hS : St w (· = b) w' [Ev.blk b ty (c0 :: c1 :: dv (.ofNat (48 + u % 100 / 10)) :: dv (.ofNat (48 + u % 100 % 10)) :: c4 :: c5 :: rest)] := hS
  refine KeepC.mk (hx1.trans hx2) ?_
  clear hx1 hx2
  (conv => whnf)
  refine RngC.mk (by omega) (by omega) ?_
  (conv => whnf)
  refine addN (a := 48) (b := (u / 100)) rfl rfl (key _ (by omega)) ?_
  (conv => whnf)
  refine convI (kd := .u8) (m := ((UInt8.ofNat (48 + (u / 100))).toNat : Int)) (by kernel_rfl) Tryz.underlying5 (key8 _ (by omega)) ?_
  (conv => whnf)
  refine IdxC.mk (by omega) (by omega) ?_
  (conv => whnf)
  refine hS.st 0 rfl (by simp [cellsL]) rfl (fun w' hS => ?_)
  replace hS : St w (· = b) w' [Ev.blk b ty (c0 :: dv (.ofNat (48 + u / 100)) :: dv (.ofNat (48 + u % 100 / 10)) :: dv (.ofNat (48 + u % 100 % 10)) :: c4 :: c5 :: rest)] := hS
  repeat' ((conv => whnf); first | refine RetC.mk ?_ | refine NzC.mk (by decide) ?_ | refine RngC.mk (by omega) (by omega) ?_ | refine IdxC.mk (by omega) (by omega) ?_ | refine brD (fun _ => ?_) (fun _ => ?_) | refine brND (fun _ => ?_) (fun _ => ?_) | refine brN (fun _ => ?_) (fun _ => ?_) | refine brI (fun _ => ?_) (fun _ => ?_))
  exact ⟨hS.ext, hS.blk 0 rfl⟩
theorem fmt4 (hu : u < 10000) (hb : Blk w b ty (c0 :: c1 :: c2 :: c3 :: c4 :: c5 :: rest)) :
    CallC Tryz.prog 112 #[.slice (some ⟨b, 1, none⟩) 4 c, .int .u64 (u : Int)] w fun _ w' => Ext (· = b) w w' ∧ Blk w' b ty (c0 :: dv (.ofNat (48 + u % 10000 / 100 / 10)) :: dv (.ofNat (48 + u % 10000 / 100 % 10)) :: dv (.ofNat (48 + u % 10000 % 100 / 10)) :: dv (.ofNat (48 + u % 10000 % 100 % 10)) :: c5 :: rest) := by
  have hu5 : u < 100000 := by omega
  have key : ∀ x : Nat, x < 100000 → IntKind.u32.wrap (x : Int) = x := fun x hx => by rw [IntKind.wrap_u32']; omega
  have key8 : ∀ x : Nat, x < 10 → IntKind.u8.wrap ((48 + x : Nat) : Int) = ((UInt8.ofNat (48 + x)).toNat : Int) := fun x hx => by rw [IntKind.wrap_u8', UInt8.toNat_ofNat']; omega
  have hS := (St.start w (· = b)).add (blk_local b _ _) hb (by simp [blk]; exact hb.lt) (by simp)
  have uStr := Tryz.underlying9
  refine fn_intro tabOk Tryz.func112 (by kernel_rfl) rfl Tryz.ntmps112 (Nat.le_of_ble_eq_true rfl) ?_
  (conv => whnf)
  refine loopR tabOk (fun σ w' q => σ = [(4, .int .i64 ((4 : Nat) : Int)), (1, .int .u64 (u : Int)), (0, .slice (some ⟨b, 1, none⟩) 4 c)] ∧ q = 0 ∧ St w (· = b) w' [Ev.blk b ty (c0 :: c1 :: c2 :: c3 :: c4 :: c5 :: rest)])
    (σ' := [(4, .int .i64 ((4 : Nat) : Int)), (1, .int .u64 (u : Int)), (0, .slice (some ⟨b, 1, none⟩) 4 c)]) (n := 0) ⟨rfl, rfl, rfl, trivial⟩ ⟨rfl, rfl, hS⟩ ?_
  clear hS
  rintro _ w1 q ⟨rfl, rfl, hS⟩
  (conv => whnf)
  refine convI (kd := .u32) (m := (u : Int)) (by kernel_rfl) Tryz.underlying72 (key u hu5) ?_
  (conv => whnf)
  refine remN (a := u) (b := 10000) rfl rfl (by decide) ?_
  (conv => whnf)
  refine quoN (a := u) (b := 10000) rfl rfl (by decide) (key _ (by omega)) ?_
  (conv => whnf)
  refine quoN (a := u % 10000) (b := 100) rfl rfl (by decide) (key _ (by omega)) ?_
  (conv => whnf)
  refine mulN (a := u % 10000 / 100) (b := 2) rfl rfl (key _ (by omega)) ?_
  (conv => whnf)
  refine remN (a := u % 10000) (b := 100) rfl rfl (by decide) ?_
  (conv => whnf)
  refine mulN (a := u % 10000 % 100) (b := 2) rfl rfl (key _ (by omega)) ?_
  (conv => whnf)
  (refine drawS tabOk mixed [] ((· = b)) [0, 1, 2, 3, 4, 5, 6, 7, 8, 9, 10, 11, 12, 13, 14] (by kernel_rfl) ?_; rintro w1 rfl; replace hS := hS.drew)
  repeat' ((conv => whnf); first | refine RetC.mk ?_ | refine NzC.mk (by decide) ?_ | refine RngC.mk (by omega) (by omega) ?_ | refine IdxC.mk (by omega) (by omega) ?_ | refine RngC.mk (by omega) (by omega) ?_ | refine addN (a := u % 10000 % 100 * 2) (b := 1) rfl rfl (key _ (by omega)) ?_ | refine idxS (l := smL) (j := u % 10000 % 100 * 2 + 1) uStr rfl (smL_lo (u % 10000 % 100) (by omega)) ?_ | refine idxS (l := smL) (j := u % 10000 % 100 * 2) uStr rfl (smL_hi (u % 10000 % 100) (by omega)) ?_ | refine IdxC.mk (by omega) (by omega) ?_ | refine brD (fun _ => ?_) (fun _ => ?_) | refine brND (fun _ => ?_) (fun _ => ?_) | refine brN (fun _ => ?_) (fun _ => ?_) | refine brI (fun _ => ?_) (fun _ => ?_))
  (conv => whnf)
  refine hS.stX 0 rfl (by simp [cellsL]) rfl (fun w' hx1 hS => ?_)
  replace hS : St w (· = b) w' [Ev.blk b ty (c0 :: c1 :: c2 :: c3 :: dv (.ofNat (48 + u % 10000 % 100 % 10)) :: c5 :: rest)] := hS
  refine KeepC.mk hx1 ?_
  repeat' ((conv => whnf); first | refine RetC.mk ?_ | refine NzC.mk (by decide) ?_ | refine RngC.mk (by omega) (by omega) ?_ | refine IdxC.mk (by omega) (by omega) ?_ | refine RngC.mk (by omega) (by omega) ?_ | refine IdxC.mk (by omega) (by omega) ?_ | refine brD (fun _ => ?_) (fun _ => ?_) | refine brND (fun _ => ?_) (fun _ => ?_) | refine brN (fun _ => ?_) (fun _ => ?_) | refine brI (fun _ => ?_) (fun _ => ?_))
  (conv => whnf)
  refine hS.stX 0 rfl (by simp [cellsL]) rfl (fun w' hx2 hS => ?_)
  replace hS : St w (· = b) w' [Ev.blk b ty (c0 :: c1 :: c2 :: dv (.ofNat (48 + u % 10000 % 100 / 10)) :: dv (.ofNat (48 + u % 10000 % 100 % 10)) :: c5 :: rest)] := hS
  refine KeepC.mk (hx1.trans hx2) ?_
  clear hx1 hx2
  (conv => whnf)
  (refine drawS tabOk mixed [] ((· = b)) [0, 1, 2, 3, 4, 5, 6, 7, 8, 9, 10, 11, 12, 13, 14] (by kernel_rfl) ?_; rintro w1 rfl; replace hS := hS.drew)
  repeat' ((conv => whnf); first | refine RetC.mk ?_ | refine NzC.mk (by decide) ?_ | refine RngC.mk (by omega) (by omega) ?_ | refine IdxC.mk (by omega) (by omega) ?_ | refine RngC.mk (by omega) (by omega) ?_ | refine addN (a := u % 10000 / 100 * 2) (b := 1) rfl rfl (key _ (by omega)) ?_ | refine idxS (l := smL) (j := u % 10000 / 100 * 2 + 1) uStr rfl (smL_lo (u % 10000 / 100) (by omega)) ?_ | refine idxS (l := smL) (j := u % 10000 / 100 * 2) uStr rfl (smL_hi (u % 10000 / 100) (by omega)) ?_ | refine IdxC.mk (by omega) (by omega) ?_ | refine brD (fun _ => ?_) (fun _ => ?_) | refine brND (fun _ => ?_) (fun _ => ?_) | refine brN (fun _ => ?_) (fun _ => ?_) | refine brI (fun _ => ?_) (fun _ => ?_))
  (conv => whnf)
  refine hS.stX 0 rfl (by simp [cellsL]) rfl (fun w' hx1 hS => ?_)
  replace hS : St w (· = b) w' [Ev.blk b ty (c0 :: c1 :: dv (.ofNat (48 + u % 10000 / 100 % 10)) :: dv (.ofNat (48 + u % 10000 % 100 / 10)) :: dv (.ofNat (48 + u % 10000 % 100 % 10)) :: c5 :: rest)] := hS
  refine KeepC.mk hx1 ?_
  repeat' ((conv => whnf); first | refine RetC.mk ?_ | refine NzC.mk (by decide) ?_ | refine RngC.mk (by omega) (by omega) ?_ | refine IdxC.mk (by omega) (by omega) ?_ | refine RngC.mk (by omega) (by omega) ?_ | refine IdxC.mk (by omega) (by omega) ?_ | refine brD (fun _ => ?_) (fun _ => ?_) | refine brND (fun _ => ?_) (fun _ => ?_) | refine brN (fun _ => ?_) (fun _ => ?_) | refine brI (fun _ => ?_) (fun _ => ?_))
  (conv => whnf)
  refine hS.stX 0 rfl (by simp [cellsL]) rfl (fun w' hx2 hS => ?_)
  replace hS : St w (· = b) w' [Ev.blk b ty (c0 :: dv (.ofNat (48 + u % 10000 / 100 / 10)) :: dv (.ofNat (48 + u % 10000 / 100 % 10)) :: dv (.ofNat (48 + u % 10000 % 100 / 10)) :: dv (.ofNat (48 + u % 10000 % 100 % 10)) :: c5 :: rest)] := hS
  refine KeepC.mk (hx1.trans hx2) ?_
  clear hx1 hx2
  (conv => whnf)
  refine RngC.mk (by omega) (by omega) ?_
  repeat' ((conv => whnf); first | refine RetC.mk ?_ | refine NzC.mk (by decide) ?_ | refine RngC.mk (by omega) (by omega) ?_ | refine IdxC.mk (by omega) (by omega) ?_ | refine brD (fun _ => ?_) (fun _ => ?_) | refine brND (fun _ => ?_) (fun _ => ?_) | refine brN (fun _ => ?_) (fun _ => ?_) | refine brI (fun _ => ?_) (fun _ => ?_))
  exact ⟨hS.ext, hS.blk 0 rfl⟩
theorem fmt5 (hu : u < 100000) (hb : Blk w b ty (c0 :: c1 :: c2 :: c3 :: c4 :: c5 :: rest)) :
    CallC Tryz.prog 112 #[.slice (some ⟨b, 1, none⟩) 5 c, .int .u64 (u : Int)] w fun _ w' => Ext (· = b) w w' ∧ Blk w' b ty (c0 :: dv (.ofNat (48 + u / 10000)) :: dv (.ofNat (48 + u % 10000 / 100 / 10)) :: dv (.ofNat (48 + u % 10000 / 100 % 10)) :: dv (.ofNat (48 + u % 10000 % 100 / 10)) :: dv (.ofNat (48 + u % 10000 % 100 % 10)) :: rest) := by
  have hu5 : u < 100000 := by omega
  have key : ∀ x : Nat, x < 100000 → IntKind.u32.wrap (x : Int) = x := fun x hx => by rw [IntKind.wrap_u32']; omega
  have key8 : ∀ x : Nat, x < 10 → IntKind.u8.wrap ((48 + x : Nat) : Int) = ((UInt8.ofNat (48 + x)).toNat : Int) := fun x hx => by rw [IntKind.wrap_u8', UInt8.toNat_ofNat']; omega
  have hS := (St.start w (· = b)).add (blk_local b _ _) hb (by simp [blk]; exact hb.lt) (by simp)
  have uStr := Tryz.underlying9
  refine fn_intro tabOk Tryz.func112 (by kernel_rfl) rfl Tryz.ntmps112 (Nat.le_of_ble_eq_true rfl) ?_
  (conv => whnf)
  refine loopR tabOk (fun σ w' q => σ = [(4, .int .i64 ((5 : Nat) : Int)), (1, .int .u64 (u : Int)), (0, .slice (some ⟨b, 1, none⟩) 5 c)] ∧ q = 0 ∧ St w (· = b) w' [Ev.blk b ty (c0 :: c1 :: c2 :: c3 :: c4 :: c5 :: rest)])
    (σ' := [(4, .int .i64 ((5 : Nat) : Int)), (1, .int .u64 (u : Int)), (0, .slice (some ⟨b, 1, none⟩) 5 c)]) (n := 0) ⟨rfl, rfl, rfl, trivial⟩ ⟨rfl, rfl, hS⟩ ?_
  clear hS
  rintro _ w1 q ⟨rfl, rfl, hS⟩
  (conv => whnf)
  refine convI (kd := .u32) (m := (u : Int)) (by kernel_rfl) Tryz.underlying72 (key u hu5) ?_
  (conv => whnf)
  refine remN (a := u) (b := 10000) rfl rfl (by decide) ?_
  (conv => whnf)
  refine quoN (a := u) (b := 10000) rfl rfl (by decide) (key _ (by omega)) ?_
  (conv => whnf)
  refine quoN (a := u % 10000) (b := 100) rfl rfl (by decide) (key _ (by omega)) ?_
  (conv => whnf)
  refine mulN (a := u % 10000 / 100) (b := 2) rfl rfl (key _ (by omega)) ?_
  (conv => whnf)
  refine remN (a := u % 10000) (b := 100) rfl rfl (by decide) ?_
  (conv => whnf)
  refine mulN (a := u % 10000 % 100) (b := 2) rfl rfl (key _ (by omega)) ?_
  (conv => whnf)
  (refine drawS tabOk mixed [] ((· = b)) [0, 1, 2, 3, 4, 5, 6, 7, 8, 9, 10, 11, 12, 13, 14] (by kernel_rfl) ?_; rintro w1 rfl; replace hS := hS.drew)
  repeat' ((conv => whnf); first | refine RetC.mk ?_ | refine NzC.mk (by decide) ?_ | refine RngC.mk (by omega) (by omega) ?_ | refine IdxC.mk (by omega) (by omega) ?_ | refine RngC.mk (by omega) (by omega) ?_ | refine addN (a := u % 10000 % 100 * 2) (b := 1) rfl rfl (key _ (by omega)) ?_ | refine idxS (l := smL) (j := u % 10000 % 100 * 2 + 1) uStr rfl (smL_lo (u % 10000 % 100) (by omega)) ?_ | refine idxS (l := smL) (j := u % 10000 % 100 * 2) uStr rfl (smL_hi (u % 10000 % 100) (by omega)) ?_ | refine IdxC.mk (by omega) (by omega) ?_ | refine brD (fun _ => ?_) (fun _ => ?_) | refine brND (fun _ => ?_) (fun _ => ?_) | refine brN (fun _ => ?_) (fun _ => ?_) | refine brI (fun _ => ?_) (fun _ => ?_))
  (conv => whnf)
  refine hS.stX 0 rfl (by simp [cellsL]) rfl (fun w' hx1 hS => ?_)
  replace hS : St w (· = b) w' [Ev.blk b ty (c0 :: c1 :: c2 :: c3 :: c4 :: dv (.ofNat (48 + u % 10000 % 100 % 10)) :: rest)] := hS
  refine KeepC.mk hx1 ?_
  repeat' ((conv => whnf); first | refine RetC.mk ?_ | refine NzC.mk (by decide) ?_ | refine RngC.mk (by omega) (by omega) ?_ | refine IdxC.mk (by omega) (by omega) ?_ | refine RngC.mk (by omega) (by omega) ?_ | refine IdxC.mk (by omega) (by omega) ?_ | refine brD (fun _ => ?_) (fun _ => ?_) | refine brND (fun _ => ?_) (fun _ => ?_) | refine brN (fun _ => ?_) (fun _ => ?_) | refine brI (fun _ => ?_) (fun _ => ?_))
  (conv => whnf)
  refine hS.stX 0 rfl (by simp [cellsL]) rfl (fun w' hx2 hS => ?_)
  replace hS : St w (· = b) w' [Ev.blk b ty (c0 :: c1 :: c2 :: c3 :: dv (.ofNat (48 + u % 10000 % 100 / 10)) :: dv (.ofNat (48 + u % 10000 % 100 % 10)) :: rest)] := hS
  refine KeepC.mk (hx1.trans hx2) ?_
  clear hx1 hx2
  (conv => whnf)
  (refine drawS tabOk mixed [] ((· = b)) [0, 1, 2, 3, 4, 5, 6, 7, 8, 9, 10, 11, 12, 13, 14] (by kernel_rfl) ?_; rintro w1 rfl; replace hS := hS.drew)
  repeat' ((conv => whnf); first | refine RetC.mk ?_ | refine NzC.mk (by decide) ?_ | refine RngC.mk (by omega) (by omega) ?_ | refine IdxC.mk (by omega) (by omega) ?_ | refine RngC.mk (by omega) (by omega) ?_ | refine addN (a := u % 10000 / 100 * 2) (b := 1) rfl rfl (key _ (by omega)) ?_ | refine idxS (l := smL) (j := u % 10000 / 100 * 2 + 1) uStr rfl (smL_lo (u % 10000 / 100) (by omega)) ?_ | refine idxS (l := smL) (j := u % 10000 / 100 * 2) uStr rfl (smL_hi (u % 10000 / 100) (by omega)) ?_ | refine IdxC.mk (by omega) (by omega) ?_ | refine brD (fun _ => ?_) (fun _ => ?_) | refine brND (fun _ => ?_) (fun _ => ?_) | refine brN (fun _ => ?_) (fun _ => ?_) | refine brI (fun _ => ?_) (fun _ => ?_))
  (conv => whnf)
  refine hS.stX 0 rfl (by simp [cellsL]) rfl (fun w' hx1 hS => ?_)
  replace hS : St w (· = b) w' [Ev.blk b ty (c0 :: c1 :: c2 :: dv (.ofNat (48 + u % 10000 / 100 % 10)) :: dv (.ofNat (48 + u % 10000 % 100 / 10)) :: dv (.ofNat (48 + u % 10000 % 100 % 10)) :: rest)] := hS
  refine KeepC.mk hx1 ?_
  repeat' ((conv => whnf); first | refine RetC.mk ?_ | refine NzC.mk (by decide) ?_ | refine RngC.mk (by omega) (by omega) ?_ | refine IdxC.mk (by omega) (by omega) ?_ | refine RngC.mk (by omega) (by omega) ?_ | refine IdxC.mk (by omega) (by omega) ?_ | refine brD (fun _ => ?_) (fun _ => ?_) | refine brND (fun _ => ?_) (fun _ => ?_) | refine brN (fun _ => ?_) (fun _ => ?_) | refine brI (fun _ => ?_) (fun _ => ?_))
  (conv => whnf)
  refine hS.stX 0 rfl (by simp [cellsL]) rfl (fun w' hx2 hS => ?_)
  replace hS : St w (· = b) w' [Ev.blk b ty (c0 :: c1 :: dv (.ofNat (48 + u % 10000 / 100 / 10)) :: dv (.ofNat (48 + u % 10000 / 100 % 10)) :: dv (.ofNat (48 + u % 10000 % 100 / 10)) :: dv (.ofNat (48 + u % 10000 % 100 % 10)) :: rest)] := hS
  refine KeepC.mk (hx1.trans hx2) ?_
  clear hx1 hx2
  (conv => whnf)
  refine RngC.mk (by omega) (by omega) ?_
  (conv => whnf)
  refine addN (a := 48) (b := (u / 10000)) rfl rfl (key _ (by omega)) ?_
  (conv => whnf)
  refine convI (kd := .u8) (m := ((UInt8.ofNat (48 + (u / 10000))).toNat : Int)) (by kernel_rfl) Tryz.underlying5 (key8 _ (by omega)) ?_
  (conv => whnf)
  refine IdxC.mk (by omega) (by omega) ?_
  (conv => whnf)
  refine hS.st 0 rfl (by simp [cellsL]) rfl (fun w' hS => ?_)
  replace hS : St w (· = b) w' [Ev.blk b ty (c0 :: dv (.ofNat (48 + u / 10000)) :: dv (.ofNat (48 + u % 10000 / 100 / 10)) :: dv (.ofNat (48 + u % 10000 / 100 % 10)) :: dv (.ofNat (48 + u % 10000 % 100 / 10)) :: dv (.ofNat (48 + u % 10000 % 100 % 10)) :: rest)] := hS
  repeat' ((conv => whnf); first | refine RetC.mk ?_ | refine NzC.mk (by decide) ?_ | refine RngC.mk (by omega) (by omega) ?_ | refine IdxC.mk (by omega) (by omega) ?_ | refine brD (fun _ => ?_) (fun _ => ?_) | refine brND (fun _ => ?_) (fun _ => ?_) | refine brN (fun _ => ?_) (fun _ => ?_) | refine brI (fun _ => ?_) (fun _ => ?_))
  exact ⟨hS.ext, hS.blk 0 rfl⟩
end
end Go.Proofs.YtgcbcagaibecbaaGreatDoor

namespace Go.Proofs.YtgcbcagaibecbaaGreatDoor
set_option maxRecDepth 20000
open Go Ev Go.RowKit
variable [Go.Proofs.YtgcbcagaibecbaaGreatDoor.Gap.Leaps]

section
variable {P : Program} {t : TypeId} {k : Value → Prop} {n : Nat} {b : Nat}
theorem slcArr {kl kh : IntKind} {i j : Int} {lo hi : Nat} (ht : P.underlying t = some (.array (P.arrayLen t) (P.elem t))) (hn : P.arrayLen t = n) (hs : ∀ w, (sizeOf (P.elem t)).run P w = .ok 1 w) (h1 : i = lo) (h2 : j = hi) (h3 : lo ≤ hi) (h4 : hi ≤ n) (h5 : lo < n) (hk : k (.slice (some ⟨b, lo, none⟩) (hi - lo) (n - lo))) :
    PureC P (Instr.sliceAt t (.pointer (some ⟨b, 0, none⟩)) (some (.int kl i)) (some (.int kh j)) none) k := by
  subst h1 h2
  refine PureC.of (fun w => ?_) hk
  rw [run_sliceAt_array_lh w t _ ht kl kh _ _ (by omega) (by omega) (by omega), hs w]
  have : ¬ n = lo := by omega
  simp [Result.andThen, slicedAt, hn, this, Addr.add]
  omega
theorem slcArr0 {kh : IntKind} {j : Int} {hi : Nat} (ht : P.underlying t = some (.array (P.arrayLen t) (P.elem t))) (hn : P.arrayLen t = n) (hs : ∀ w, (sizeOf (P.elem t)).run P w = .ok 1 w) (h2 : j = hi) (h4 : hi ≤ n) (h5 : 0 < n) (hk : k (.slice (some ⟨b, 0, none⟩) hi n)) :
    PureC P (Instr.sliceAt t (.pointer (some ⟨b, 0, none⟩)) none (some (.int kh j)) none) k := by
  subst h2
  refine PureC.of (fun w => ?_) hk
  rw [run_sliceAt_array_h w t _ ht kh _ (by omega) (by omega), hs w]
  have : ¬ n = 0 := by omega
  simp [Result.andThen, slicedAt, hn, this, Addr.add]
end
theorem negU {P : Program} {k : Value → Prop} {m : Int} {u : Nat} (h : IntKind.u64.wrap (-m) = u) (hk : k (.int .u64 (u : Int))) : PureC P (Op.unary .neg (.int .u64 m)) k :=
  PureC.of (fun w => by
    show (Op.intArith .sub .u64 0 m).run P w = _
    show (pure (Value.int .u64 (IntKind.u64.wrap (0 - m))) : Sem Value).run P w = _
    rw [Int.zero_sub, h]
    rfl) hk
section
variable {u : Nat}
theorem dd2 (h1 : 10 ≤ u) (h2 : u < 100) : Lib.decDigits u = [.ofNat (48 + u % 100 / 10), .ofNat (48 + u % 100 % 10)] := by
  rw [Lib.decDigits_two (by omega) h2, Nat.mod_eq_of_lt h2]
theorem dd3 (h1 : 100 ≤ u) (h2 : u < 1000) : Lib.decDigits u = [.ofNat (48 + u / 100), .ofNat (48 + u % 100 / 10), .ofNat (48 + u % 100 % 10)] := by
  rw [Lib.decDigits, dif_neg (by omega), dd2 (by omega) (by omega), show u / 10 % 100 / 10 = u / 100 by omega, show u / 10 % 100 % 10 = u % 100 / 10 by omega, show u % 10 = u % 100 % 10 by omega]
  rfl
theorem dd4 (h1 : 1000 ≤ u) (h2 : u < 10000) : Lib.decDigits u = [.ofNat (48 + u % 10000 / 100 / 10), .ofNat (48 + u % 10000 / 100 % 10), .ofNat (48 + u % 10000 % 100 / 10), .ofNat (48 + u % 10000 % 100 % 10)] := by
  rw [Lib.decDigits, dif_neg (by omega), dd3 (by omega) (by omega), show u / 10 / 100 = u % 10000 / 100 / 10 by omega, show u / 10 % 100 / 10 = u % 10000 / 100 % 10 by omega, show u / 10 % 100 % 10 = u % 10000 % 100 / 10 by omega, show u % 10 = u % 10000 % 100 % 10 by omega]
  rfl
theorem dd5 (h1 : 10000 ≤ u) (h2 : u < 100000) : Lib.decDigits u = [.ofNat (48 + u / 10000), .ofNat (48 + u % 10000 / 100 / 10), .ofNat (48 + u % 10000 / 100 % 10), .ofNat (48 + u % 10000 % 100 / 10), .ofNat (48 + u % 10000 % 100 % 10)] := by
  rw [Lib.decDigits, dif_neg (by omega), dd4 (by omega) (by omega), show u / 10 % 10000 / 100 / 10 = u / 10000 by omega, show u / 10 % 10000 / 100 % 10 = u % 10000 / 100 / 10 by omega, show u / 10 % 10000 % 100 / 10 = u % 10000 / 100 % 10 by omega, show u / 10 % 10000 % 100 % 10 = u % 10000 % 100 / 10 by omega, show u % 10 = u % 10000 % 100 % 10 by omega]
  rfl
end
theorem itoa_pos (u : Nat) : Lib.itoa (u : Int) = Lib.decDigits u := by unfold Lib.itoa; rw [if_neg (by omega)]; simp
theorem itoa_neg (u : Nat) (h : 1 ≤ u) : Lib.itoa (-(u : Int)) = 45 :: Lib.decDigits u := by unfold Lib.itoa; rw [if_pos (by omega)]; simp
section
variable {w : World} {n : Int} {u : Nat}
theorem fi3 (hu : 100 ≤ u) (hu2 : u < 1000) (ht : Pow10 w) : CallC Tryz.prog 102 #[.int .i64 (u : Int), .int .i64 10] w fun v w' => v = .string (bs (Lib.itoa u)) ∧ Ext No w w' := by
  have hnd : Lib.nDigits u = 3 := Lib.nDigits_unique (3 - 1) u (by omega) (by omega)
  have hS := St.start w No
  refine fn_intro tabOk Tryz.func102 (by kernel_rfl) rfl Tryz.ntmps102 (Nat.le_of_ble_eq_true rfl) ?_
  (conv => whnf)
  have e1 : decide (0 ≤ (u : Int)) = true := decide_eq_true (by omega)
  have e2 : decide ((u : Int) < 100) = false := decide_eq_false (by omega)
  rw [e1]
  (conv => whnf)
  rw [e2]
  (conv => whnf)
  refine ⟨.agg (List.replicate 24 (.int .u8 0)).toArray, by kernel_rfl, ?_⟩
  refine hS.new (fun b w' hb hS => ?_)
  replace hS : St w No w' [blk b _ (List.replicate 24 (.int .u8 0))] := hS
  (conv => whnf)
  refine convI (kd := .u64) (m := (u : Int)) (by kernel_rfl) Tryz.underlying69 (by rw [IntKind.wrap_u64]; omega) ?_
  (conv => whnf)
  have e3 : decide ((u : Int) < 0) = false := decide_eq_false (by omega)
  rw [e3]
  (conv => whnf)
  refine (numDigits_ok u (by omega) (by omega) _ (ht.no hS.ext)).mono ?_
  rintro v w2 ⟨rfl, rfl⟩
  rw [hnd]
  (conv => whnf)
  refine RngC.mk (by omega) (by omega) ?_
  (conv => whnf)
  refine slcArr (n := 24) (lo := 1) (hi := 4) (by kernel_rfl) (by kernel_rfl) (fun w => (cellsOf_run (by kernel_rfl) w).trans (by kernel_rfl)) rfl rfl (by decide) (by decide) (by decide) ?_
  (conv => whnf)
  refine (fmt3 (c := 23) (by omega) (hS.blk 0 rfl)).mono ?_
  rintro v w4 ⟨hx, hB⟩
  (conv => whnf)
  rw [e3]
  (conv => whnf)
  refine RngC.mk (by omega) (by omega) ?_
  (conv => whnf)
  refine slcArr (n := 24) (lo := 1) (hi := 4) (by kernel_rfl) (by kernel_rfl) (fun w => (cellsOf_run (by kernel_rfl) w).trans (by kernel_rfl)) rfl rfl (by decide) (by decide) (by decide) ?_
  (conv => whnf)
  refine strC (l := Lib.decDigits u) (e := 5) (by kernel_rfl) Tryz.underlying5 Tryz.underlying9 (hB.cells (by rw [dd3 (by omega) (by omega)]; rfl)) (by rw [dd3 (by omega) (by omega)]; rfl) ?_
  repeat' ((conv => whnf); first | refine RetC.mk ?_ | refine NzC.mk (by decide) ?_ | refine RngC.mk (by omega) (by omega) ?_ | refine IdxC.mk (by omega) (by omega) ?_ | refine brD (fun _ => ?_) (fun _ => ?_) | refine brND (fun _ => ?_) (fun _ => ?_) | refine brN (fun _ => ?_) (fun _ => ?_) | refine brI (fun _ => ?_) (fun _ => ?_))
  exact ⟨by rw [itoa_pos], hS.ext.then hx fun d hd => .inr (hd ▸ hb)⟩
theorem fi4 (hu : 1000 ≤ u) (hu2 : u < 10000) (ht : Pow10 w) : CallC Tryz.prog 102 #[.int .i64 (u : Int), .int .i64 10] w fun v w' => v = .string (bs (Lib.itoa u)) ∧ Ext No w w' := by
  have hnd : Lib.nDigits u = 4 := Lib.nDigits_unique (4 - 1) u (by omega) (by omega)
  have hS := St.start w No
  refine fn_intro tabOk Tryz.func102 (by kernel_rfl) rfl Tryz.ntmps102 (Nat.le_of_ble_eq_true rfl) ?_
  (conv => whnf)
  have e1 : decide (0 ≤ (u : Int)) = true := decide_eq_true (by omega)
  have e2 : decide ((u : Int) < 100) = false := decide_eq_false (by omega)
  rw [e1]
  (conv => whnf)
  rw [e2]
  (conv => whnf)
  refine ⟨.agg (List.replicate 24 (.int .u8 0)).toArray, by kernel_rfl, ?_⟩
  refine hS.new (fun b w' hb hS => ?_)
  replace hS : St w No w' [blk b _ (List.replicate 24 (.int .u8 0))] := hS
  (conv => whnf)
  refine convI (kd := .u64) (m := (u : Int)) (by kernel_rfl) Tryz.underlying69 (by rw [IntKind.wrap_u64]; omega) ?_
  (conv => whnf)
  have e3 : decide ((u : Int) < 0) = false := decide_eq_false (by omega)
  rw [e3]
  (conv => whnf)
  refine (numDigits_ok u (by omega) (by omega) _ (ht.no hS.ext)).mono ?_
  rintro v w2 ⟨rfl, rfl⟩
  rw [hnd]
  (conv => whnf)
  refine RngC.mk (by omega) (by omega) ?_
  (conv => whnf)
  refine slcArr (n := 24) (lo := 1) (hi := 5) (by kernel_rfl) (by kernel_rfl) (fun w => (cellsOf_run (by kernel_rfl) w).trans (by kernel_rfl)) rfl rfl (by decide) (by decide) (by decide) ?_
  (conv => whnf)
  refine (fmt4 (c := 23) (by omega) (hS.blk 0 rfl)).mono ?_
  rintro v w4 ⟨hx, hB⟩
  (conv => whnf)
  rw [e3]
  (conv => whnf)
  refine RngC.mk (by omega) (by omega) ?_
  (conv => whnf)
  refine slcArr (n := 24) (lo := 1) (hi := 5) (by kernel_rfl) (by kernel_rfl) (fun w => (cellsOf_run (by kernel_rfl) w).trans (by kernel_rfl)) rfl rfl (by decide) (by decide) (by decide) ?_
  (conv => whnf)
  refine strC (l := Lib.decDigits u) (e := 5) (by kernel_rfl) Tryz.underlying5 Tryz.underlying9 (hB.cells (by rw [dd4 (by omega) (by omega)]; rfl)) (by rw [dd4 (by omega) (by omega)]; rfl) ?_
  repeat' ((conv => whnf); first | refine RetC.mk ?_ | refine NzC.mk (by decide) ?_ | refine RngC.mk (by omega) (by omega) ?_ | refine IdxC.mk (by omega) (by omega) ?_ | refine brD (fun _ => ?_) (fun _ => ?_) | refine brND (fun _ => ?_) (fun _ => ?_) | refine brN (fun _ => ?_) (fun _ => ?_) | refine brI (fun _ => ?_) (fun _ => ?_))
  exact ⟨by rw [itoa_pos], hS.ext.then hx fun d hd => .inr (hd ▸ hb)⟩
theorem fi5 (hu : 10000 ≤ u) (hu2 : u < 100000) (ht : Pow10 w) : CallC Tryz.prog 102 #[.int .i64 (u : Int), .int .i64 10] w fun v w' => v = .string (bs (Lib.itoa u)) ∧ Ext No w w' := by
  have hnd : Lib.nDigits u = 5 := Lib.nDigits_unique (5 - 1) u (by omega) (by omega)
  have hS := St.start w No
  refine fn_intro tabOk Tryz.func102 (by kernel_rfl) rfl Tryz.ntmps102 (Nat.le_of_ble_eq_true rfl) ?_
  (conv => whnf)
  have e1 : decide (0 ≤ (u : Int)) = true := decide_eq_true (by omega)
  have e2 : decide ((u : Int) < 100) = false := decide_eq_false (by omega)
  rw [e1]
  (conv => whnf)
  rw [e2]
  (conv => whnf)
  refine ⟨.agg (List.replicate 24 (.int .u8 0)).toArray, by kernel_rfl, ?_⟩
  refine hS.new (fun b w' hb hS => ?_)
  replace hS : St w No w' [blk b _ (List.replicate 24 (.int .u8 0))] := hS
  (conv => whnf)
  refine convI (kd := .u64) (m := (u : Int)) (by kernel_rfl) Tryz.underlying69 (by rw [IntKind.wrap_u64]; omega) ?_
  (conv => whnf)
  have e3 : decide ((u : Int) < 0) = false := decide_eq_false (by omega)
  rw [e3]
  (conv => whnf)
  refine (numDigits_ok u (by omega) (by omega) _ (ht.no hS.ext)).mono ?_
  rintro v w2 ⟨rfl, rfl⟩
  rw [hnd]
  (conv => whnf)
  refine RngC.mk (by omega) (by omega) ?_
  (conv => whnf)
  refine slcArr (n := 24) (lo := 1) (hi := 6) (by kernel_rfl) (by kernel_rfl) (fun w => (cellsOf_run (by kernel_rfl) w).trans (by kernel_rfl)) rfl rfl (by decide) (by decide) (by decide) ?_
  (conv => whnf)
  refine (fmt5 (c := 23) (by omega) (hS.blk 0 rfl)).mono ?_
  rintro v w4 ⟨hx, hB⟩
  (conv => whnf)
  rw [e3]
  (conv => whnf)
  refine RngC.mk (by omega) (by omega) ?_
  (conv => whnf)
  refine slcArr (n := 24) (lo := 1) (hi := 6) (by kernel_rfl) (by kernel_rfl) (fun w => (cellsOf_run (by kernel_rfl) w).trans (by kernel_rfl)) rfl rfl (by decide) (by decide) (by decide) ?_
  (conv => whnf)
  refine strC (l := Lib.decDigits u) (e := 5) (by kernel_rfl) Tryz.underlying5 Tryz.underlying9 (hB.cells (by rw [dd5 (by omega) (by omega)]; rfl)) (by rw [dd5 (by omega) (by omega)]; rfl) ?_
  repeat' ((conv => whnf); first | refine RetC.mk ?_ | refine NzC.mk (by decide) ?_ | refine RngC.mk (by omega) (by omega) ?_ | refine IdxC.mk (by omega) (by omega) ?_ | refine brD (fun _ => ?_) (fun _ => ?_) | refine brND (fun _ => ?_) (fun _ => ?_) | refine brN (fun _ => ?_) (fun _ => ?_) | refine brI (fun _ => ?_) (fun _ => ?_))
  exact ⟨by rw [itoa_pos], hS.ext.then hx fun d hd => .inr (hd ▸ hb)⟩
theorem fn1 (hu : 1 ≤ u) (hu2 : u < 10) (ht : Pow10 w) : CallC Tryz.prog 102 #[.int .i64 (-(u : Int)), .int .i64 10] w fun v w' => v = .string (bs (Lib.itoa (-(u : Int)))) ∧ Ext No w w' := by
  have hnd : Lib.nDigits u = 1 := by first | exact Lib.nDigits_small (by omega) | exact Lib.nDigits_unique (1 - 1) u (by omega) (by omega)
  have hS := St.start w No
  refine fn_intro tabOk Tryz.func102 (by kernel_rfl) rfl Tryz.ntmps102 (Nat.le_of_ble_eq_true rfl) ?_
  (conv => whnf)
  have e1 : decide (0 ≤ -(u : Int)) = false := decide_eq_false (by omega)
  rw [e1]
  (conv => whnf)
  refine ⟨.agg (List.replicate 24 (.int .u8 0)).toArray, by kernel_rfl, ?_⟩
  refine hS.new (fun b w' hb hS => ?_)
  replace hS : St w No w' [blk b _ (List.replicate 24 (.int .u8 0))] := hS
  (conv => whnf)
  refine convI (kd := .u64) (m := 18446744073709551616 - (u : Int)) (by kernel_rfl) Tryz.underlying69 (by rw [IntKind.wrap_u64]; omega) ?_
  (conv => whnf)
  have e3 : decide (-(u : Int) < 0) = true := decide_eq_true (by omega)
  rw [e3]
  (conv => whnf)
  refine negU (m := 18446744073709551616 - (u : Int)) (u := u) (by rw [IntKind.wrap_u64]; omega) ?_
  (conv => whnf)
  refine (numDigits_ok u (by omega) (by omega) _ (ht.no hS.ext)).mono ?_
  rintro v w2 ⟨rfl, rfl⟩
  rw [hnd]
  (conv => whnf)
  refine RngC.mk (by omega) (by omega) ?_
  (conv => whnf)
  refine slcArr (n := 24) (lo := 1) (hi := 2) (by kernel_rfl) (by kernel_rfl) (fun w => (cellsOf_run (by kernel_rfl) w).trans (by kernel_rfl)) rfl rfl (by decide) (by decide) (by decide) ?_
  (conv => whnf)
  refine (fmt1 (c := 23) (by omega) (hS.blk 0 rfl)).mono ?_
  rintro v w4 ⟨hx, hB⟩
  (conv => whnf)
  rw [e3]
  have hS4 : St w No w4 [blk b _ _] := hS.upd 0 rfl (T := (· = b)) hx (fun d hd => by simp [blk, hd]) (blk_local _ _ _) hB (fun d hd => .inl hd)
  (conv => whnf)
  refine IdxC.mk (by omega) (by omega) ?_
  (conv => whnf)
  refine hS4.st 0 rfl (by simp [cellsL]) rfl (fun w5 hS5 => ?_)
  replace hS5 : St w No w5 [blk b _ (.int .u8 45 :: _)] := hS5
  (conv => whnf)
  refine RngC.mk (by omega) (by omega) ?_
  (conv => whnf)
  refine slcArr0 (n := 24) (hi := 2) (by kernel_rfl) (by kernel_rfl) (fun w => (cellsOf_run (by kernel_rfl) w).trans (by kernel_rfl)) rfl (by decide) (by decide) ?_
  (conv => whnf)
  refine strC (l := 45 :: Lib.decDigits u) (e := 5) (by kernel_rfl) Tryz.underlying5 Tryz.underlying9 ((hS5.blk 0 rfl).cells (by rw [Lib.decDigits_one (by omega)]; rfl)) (by rw [Lib.decDigits_one (by omega)]; rfl) ?_
  repeat' ((conv => whnf); first | refine RetC.mk ?_ | refine NzC.mk (by decide) ?_ | refine RngC.mk (by omega) (by omega) ?_ | refine IdxC.mk (by omega) (by omega) ?_ | refine brD (fun _ => ?_) (fun _ => ?_) | refine brND (fun _ => ?_) (fun _ => ?_) | refine brN (fun _ => ?_) (fun _ => ?_) | refine brI (fun _ => ?_) (fun _ => ?_))
  exact ⟨by rw [itoa_neg u (by omega)], hS5.ext⟩
theorem fn2 (hu : 10 ≤ u) (hu2 : u < 100) (ht : Pow10 w) : CallC Tryz.prog 102 #[.int .i64 (-(u : Int)), .int .i64 10] w fun v w' => v = .string (bs (Lib.itoa (-(u : Int)))) ∧ Ext No w w' := by
  have hnd : Lib.nDigits u = 2 := by first | exact Lib.nDigits_small (by omega) | exact Lib.nDigits_unique (2 - 1) u (by omega) (by omega)
  have hS := St.start w No
  refine fn_intro tabOk Tryz.func102 (by kernel_rfl) rfl Tryz.ntmps102 (Nat.le_of_ble_eq_true rfl) ?_
  (conv => whnf)
  have e1 : decide (0 ≤ -(u : Int)) = false := decide_eq_false (by omega)
  rw [e1]
  (conv => whnf)
  refine ⟨.agg (List.replicate 24 (.int .u8 0)).toArray, by kernel_rfl, ?_⟩
  refine hS.new (fun b w' hb hS => ?_)
  replace hS : St w No w' [blk b _ (List.replicate 24 (.int .u8 0))] := hS
  (conv => whnf)
  refine convI (kd := .u64) (m := 18446744073709551616 - (u : Int)) (by kernel_rfl) Tryz.underlying69 (by rw [IntKind.wrap_u64]; omega) ?_
  (conv => whnf)
  have e3 : decide (-(u : Int) < 0) = true := decide_eq_true (by omega)
  rw [e3]
  (conv => whnf)
  refine negU (m := 18446744073709551616 - (u : Int)) (u := u) (by rw [IntKind.wrap_u64]; omega) ?_
  (conv => whnf)
  refine (numDigits_ok u (by omega) (by omega) _ (ht.no hS.ext)).mono ?_
  rintro v w2 ⟨rfl, rfl⟩
  rw [hnd]
  (conv => whnf)
  refine RngC.mk (by omega) (by omega) ?_
  (conv => whnf)
  refine slcArr (n := 24) (lo := 1) (hi := 3) (by kernel_rfl) (by kernel_rfl) (fun w => (cellsOf_run (by kernel_rfl) w).trans (by kernel_rfl)) rfl rfl (by decide) (by decide) (by decide) ?_
  (conv => whnf)
  refine (fmt2 (c := 23) (by omega) (hS.blk 0 rfl)).mono ?_
  rintro v w4 ⟨hx, hB⟩
  (conv => whnf)
  rw [e3]
  have hS4 : St w No w4 [blk b _ _] := hS.upd 0 rfl (T := (· = b)) hx (fun d hd => by simp [blk, hd]) (blk_local _ _ _) hB (fun d hd => .inl hd)
  (conv => whnf)
  refine IdxC.mk (by omega) (by omega) ?_
  (conv => whnf)
  refine hS4.st 0 rfl (by simp [cellsL]) rfl (fun w5 hS5 => ?_)
  replace hS5 : St w No w5 [blk b _ (.int .u8 45 :: _)] := hS5
  (conv => whnf)
  refine RngC.mk (by omega) (by omega) ?_
  (conv => whnf)
  refine slcArr0 (n := 24) (hi := 3) (by kernel_rfl) (by kernel_rfl) (fun w => (cellsOf_run (by kernel_rfl) w).trans (by kernel_rfl)) rfl (by decide) (by decide) ?_
  (conv => whnf)
  refine strC (l := 45 :: Lib.decDigits u) (e := 5) (by kernel_rfl) Tryz.underlying5 Tryz.underlying9 ((hS5.blk 0 rfl).cells (by rw [dd2 (by omega) (by omega)]; rfl)) (by rw [dd2 (by omega) (by omega)]; rfl) ?_
  repeat' ((conv => whnf); first | refine RetC.mk ?_ | refine NzC.mk (by decide) ?_ | refine RngC.mk (by omega) (by omega) ?_ | refine IdxC.mk (by omega) (by omega) ?_ | refine brD (fun _ => ?_) (fun _ => ?_) | refine brND (fun _ => ?_) (fun _ => ?_) | refine brN (fun _ => ?_) (fun _ => ?_) | refine brI (fun _ => ?_) (fun _ => ?_))
  exact ⟨by rw [itoa_neg u (by omega)], hS5.ext⟩
theorem fn3 (hu : 100 ≤ u) (hu2 : u < 1000) (ht : Pow10 w) : CallC Tryz.prog 102 #[.int .i64 (-(u : Int)), .int .i64 10] w fun v w' => v = .string (bs (Lib.itoa (-(u : Int)))) ∧ Ext No w w' := by
  have hnd : Lib.nDigits u = 3 := by first | exact Lib.nDigits_small (by omega) | exact Lib.nDigits_unique (3 - 1) u (by omega) (by omega)
  have hS := St.start w No
  refine fn_intro tabOk Tryz.func102 (by kernel_rfl) rfl Tryz.ntmps102 (Nat.le_of_ble_eq_true rfl) ?_
  (conv => whnf)
  have e1 : decide (0 ≤ -(u : Int)) = false := decide_eq_false (by omega)
  rw [e1]
  (conv => whnf)
  refine ⟨.agg (List.replicate 24 (.int .u8 0)).toArray, by kernel_rfl, ?_⟩
  refine hS.new (fun b w' hb hS => ?_)
  replace hS : St w No w' [blk b _ (List.replicate 24 (.int .u8 0))] := hS
  (conv => whnf)
  refine convI (kd := .u64) (m := 18446744073709551616 - (u : Int)) (by kernel_rfl) Tryz.underlying69 (by rw [IntKind.wrap_u64]; omega) ?_
  (conv => whnf)
  have e3 : decide (-(u : Int) < 0) = true := decide_eq_true (by omega)
  rw [e3]
  (conv => whnf)
  refine negU (m := 18446744073709551616 - (u : Int)) (u := u) (by rw [IntKind.wrap_u64]; omega) ?_
  (conv => whnf)
  refine (numDigits_ok u (by omega) (by omega) _ (ht.no hS.ext)).mono ?_
  rintro v w2 ⟨rfl, rfl⟩
  rw [hnd]
  (conv => whnf)
  refine RngC.mk (by omega) (by omega) ?_
  (conv => whnf)
  refine slcArr (n := 24) (lo := 1) (hi := 4) (by kernel_rfl) (by kernel_rfl) (fun w => (cellsOf_run (by kernel_rfl) w).trans (by kernel_rfl)) rfl rfl (by decide) (by decide) (by decide) ?_
  (conv => whnf)
  refine (fmt3 (c := 23) (by omega) (hS.blk 0 rfl)).mono ?_
  rintro v w4 ⟨hx, hB⟩
  (conv => whnf)
  rw [e3]
  have hS4 : St w No w4 [blk b _ _] := hS.upd 0 rfl (T := (· = b)) hx (fun d hd => by simp [blk, hd]) (blk_local _ _ _) hB (fun d hd => .inl hd)
  (conv => whnf)
  refine IdxC.mk (by omega) (by omega) ?_
  (conv => whnf)
  refine hS4.st 0 rfl (by simp [cellsL]) rfl (fun w5 hS5 => ?_)
  replace hS5 : St w No w5 [blk b _ (.int .u8 45 :: _)] := hS5
  (conv => whnf)
  refine RngC.mk (by omega) (by omega) ?_
  (conv => whnf)
  refine slcArr0 (n := 24) (hi := 4) (by kernel_rfl) (by kernel_rfl) (fun w => (cellsOf_run (by kernel_rfl) w).trans (by kernel_rfl)) rfl (by decide) (by decide) ?_
  (conv => whnf)
  refine strC (l := 45 :: Lib.decDigits u) (e := 5) (by kernel_rfl) Tryz.underlying5 Tryz.underlying9 ((hS5.blk 0 rfl).cells (by rw [dd3 (by omega) (by omega)]; rfl)) (by rw [dd3 (by omega) (by omega)]; rfl) ?_
  repeat' ((conv => whnf); first | refine RetC.mk ?_ | refine NzC.mk (by decide) ?_ | refine RngC.mk (by omega) (by omega) ?_ | refine IdxC.mk (by omega) (by omega) ?_ | refine brD (fun _ => ?_) (fun _ => ?_) | refine brND (fun _ => ?_) (fun _ => ?_) | refine brN (fun _ => ?_) (fun _ => ?_) | refine brI (fun _ => ?_) (fun _ => ?_))
  exact ⟨by rw [itoa_neg u (by omega)], hS5.ext⟩
theorem fn4 (hu : 1000 ≤ u) (hu2 : u < 10000) (ht : Pow10 w) : CallC Tryz.prog 102 #[.int .i64 (-(u : Int)), .int .i64 10] w fun v w' => v = .string (bs (Lib.itoa (-(u : Int)))) ∧ Ext No w w' := by
  have hnd : Lib.nDigits u = 4 := by first | exact Lib.nDigits_small (by omega) | exact Lib.nDigits_unique (4 - 1) u (by omega) (by omega)
  have hS := St.start w No
  refine fn_intro tabOk Tryz.func102 (by kernel_rfl) rfl Tryz.ntmps102 (Nat.le_of_ble_eq_true rfl) ?_
  (conv => whnf)
  have e1 : decide (0 ≤ -(u : Int)) = false := decide_eq_false (by omega)
  rw [e1]
  (conv => whnf)
  refine ⟨.agg (List.replicate 24 (.int .u8 0)).toArray, by kernel_rfl, ?_⟩
  refine hS.new (fun b w' hb hS => ?_)
  replace hS : St w No w' [blk b _ (List.replicate 24 (.int .u8 0))] := hS
  (conv => whnf)
  refine convI (kd := .u64) (m := 18446744073709551616 - (u : Int)) (by kernel_rfl) Tryz.underlying69 (by rw [IntKind.wrap_u64]; omega) ?_
  (conv => whnf)
  have e3 : decide (-(u : Int) < 0) = true := decide_eq_true (by omega)
  rw [e3]
  (conv => whnf)
  refine negU (m := 18446744073709551616 - (u : Int)) (u := u) (by rw [IntKind.wrap_u64]; omega) ?_
  (conv => whnf)
  refine (numDigits_ok u (by omega) (by omega) _ (ht.no hS.ext)).mono ?_
  rintro v w2 ⟨rfl, rfl⟩
  rw [hnd]
  (conv => whnf)
  refine RngC.mk (by omega) (by omega) ?_
  (conv => whnf)
  refine slcArr (n := 24) (lo := 1) (hi := 5) (by kernel_rfl) (by kernel_rfl) (fun w => (cellsOf_run (by kernel_rfl) w).trans (by kernel_rfl)) rfl rfl (by decide) (by decide) (by decide) ?_
  (conv => whnf)
  refine (fmt4 (c := 23) (by omega) (hS.blk 0 rfl)).mono ?_
  rintro v w4 ⟨hx, hB⟩
  (conv => whnf)
  rw [e3]
  have hS4 : St w No w4 [blk b _ _] := hS.upd 0 rfl (T := (· = b)) hx (fun d hd => by simp [blk, hd]) (blk_local _ _ _) hB (fun d hd => .inl hd)
  (conv => whnf)
  refine IdxC.mk (by omega) (by omega) ?_
  (conv => whnf)
  refine hS4.st 0 rfl (by simp [cellsL]) rfl (fun w5 hS5 => ?_)
  replace hS5 : St w No w5 [blk b _ (.int .u8 45 :: _)] := hS5
  (conv => whnf)
  refine RngC.mk (by omega) (by omega) ?_
  (conv => whnf)
  refine slcArr0 (n := 24) (hi := 5) (by kernel_rfl) (by kernel_rfl) (fun w => (cellsOf_run (by kernel_rfl) w).trans (by kernel_rfl)) rfl (by decide) (by decide) ?_
  (conv => whnf)
  refine strC (l := 45 :: Lib.decDigits u) (e := 5) (by kernel_rfl) Tryz.underlying5 Tryz.underlying9 ((hS5.blk 0 rfl).cells (by rw [dd4 (by omega) (by omega)]; rfl)) (by rw [dd4 (by omega) (by omega)]; rfl) ?_
  repeat' ((conv => whnf); first | refine RetC.mk ?_ | refine NzC.mk (by decide) ?_ | refine RngC.mk (by omega) (by omega) ?_ | refine IdxC.mk (by omega) (by omega) ?_ | refine brD (fun _ => ?_) (fun _ => ?_) | refine brND (fun _ => ?_) (fun _ => ?_) | refine brN (fun _ => ?_) (fun _ => ?_) | refine brI (fun _ => ?_) (fun _ => ?_))
  exact ⟨by rw [itoa_neg u (by omega)], hS5.ext⟩
theorem fsmall (hu : u < 100) : CallC Tryz.prog 102 #[.int .i64 (u : Int), .int .i64 10] w fun v w' => v = .string (bs (Lib.itoa u)) ∧ Ext No w w' := by
  refine fn_intro tabOk Tryz.func102 (by kernel_rfl) rfl Tryz.ntmps102 (Nat.le_of_ble_eq_true rfl) ?_
  (conv => whnf)
  have e1 : decide (0 ≤ (u : Int)) = true := decide_eq_true (by omega)
  have e2 : decide ((u : Int) < 100) = true := decide_eq_true (by omega)
  rw [e1]
  (conv => whnf)
  rw [e2]
  (conv => whnf)
  refine (small_ok u hu _).mono ?_
  rintro v w' ⟨rfl, rfl⟩
  repeat' ((conv => whnf); first | refine RetC.mk ?_ | refine NzC.mk (by decide) ?_ | refine RngC.mk (by omega) (by omega) ?_ | refine IdxC.mk (by omega) (by omega) ?_ | refine brD (fun _ => ?_) (fun _ => ?_) | refine brND (fun _ => ?_) (fun _ => ?_) | refine brN (fun _ => ?_) (fun _ => ?_) | refine brI (fun _ => ?_) (fun _ => ?_))
  exact ⟨by rw [itoa_pos], Ext.refl _ _⟩
theorem format_ok (h0 : -9999 ≤ n) (h1 : n ≤ 99999) (ht : Pow10 w) : CallC Tryz.prog 102 #[.int .i64 n, .int .i64 10] w fun v w' => v = .string (bs (Lib.itoa n)) ∧ Ext No w w' := by
  rcases Int.lt_or_le n 0 with h | h
  · obtain ⟨u, rfl⟩ : ∃ u : Nat, n = -(u : Int) := ⟨n.natAbs, by omega⟩
    by_cases a : u < 10
    · exact fn1 (by omega) a ht
    by_cases a : u < 100
    · exact fn2 (by omega) a ht
    by_cases a : u < 1000
    · exact fn3 (by omega) a ht
    · exact fn4 (by omega) (by omega) ht
  · obtain ⟨u, rfl⟩ : ∃ u : Nat, n = (u : Int) := ⟨n.natAbs, by omega⟩
    by_cases a : u < 100
    · exact fsmall a
    by_cases a : u < 1000
    · exact fi3 (by omega) a ht
    by_cases a : u < 10000
    · exact fi4 (by omega) a ht
    · exact fi5 (by omega) (by omega) ht
theorem itoa_ok (n : Int) (h0 : -9999 ≤ n) (h1 : n ≤ 99999) (w : World) (ht : Pow10 w) : CallC Tryz.prog 66 #[.int .i64 n] w fun v w' => v = .string (bs (Lib.itoa n)) ∧ Ext No w w' := by
  have inner : CallC Tryz.prog 85 #[.int .i64 n] w fun v w' => v = .string (bs (Lib.itoa n)) ∧ Ext No w w' := by
    refine fn_intro tabOk Tryz.func85 (by kernel_rfl) rfl Tryz.ntmps85 (Nat.le_of_ble_eq_true rfl) ?_
    (conv => whnf)
    refine (format_ok h0 h1 ht).mono ?_
    rintro v w' ⟨rfl, hx⟩
    repeat' ((conv => whnf); first | refine RetC.mk ?_ | refine NzC.mk (by decide) ?_ | refine RngC.mk (by omega) (by omega) ?_ | refine IdxC.mk (by omega) (by omega) ?_ | refine brD (fun _ => ?_) (fun _ => ?_) | refine brND (fun _ => ?_) (fun _ => ?_) | refine brN (fun _ => ?_) (fun _ => ?_) | refine brI (fun _ => ?_) (fun _ => ?_))
    exact ⟨rfl, hx⟩
  refine fn_intro tabOk Tryz.func66 (by kernel_rfl) rfl Tryz.ntmps66 (Nat.le_of_ble_eq_true rfl) ?_
  (conv => whnf)
  refine inner.mono ?_
  rintro v w' ⟨rfl, hx⟩
  repeat' ((conv => whnf); first | refine RetC.mk ?_ | refine NzC.mk (by decide) ?_ | refine RngC.mk (by omega) (by omega) ?_ | refine IdxC.mk (by omega) (by omega) ?_ | refine brD (fun _ => ?_) (fun _ => ?_) | refine brND (fun _ => ?_) (fun _ => ?_) | refine brN (fun _ => ?_) (fun _ => ?_) | refine brI (fun _ => ?_) (fun _ => ?_))
  exact ⟨rfl, hx⟩
end
end Go.Proofs.YtgcbcagaibecbaaGreatDoor

namespace Go.Proofs.YtgcbcagaibecbaaGreatDoor
set_option maxRecDepth 20000
open Go Ev Gap
variable [Go.Proofs.YtgcbcagaibecbaaGreatDoor.Gap.Leaps]

theorem plain_loadBytes {P : Program} : ∀ (n : Nat) (a : Addr) (acc : ByteArray), Gap.Plain P (Go.loadBytes a acc n)
  | 0, _, _ => trivial
  | n + 1, a, acc => by
    unfold Go.loadBytes
    refine plain_bind (plain_load a) fun v => ?_
    split
    · exact plain_loadBytes n _ _
    · trivial
section
variable {P : Program} {w : World} {b : Nat} {e pt it ty : TypeId} {cs : List Value} {l : List UInt8}
theorem uns_quiet (hp : P.underlying pt = some (.pointer e)) (hc : P.cellsOf e = 1) (hB : Blk w b e cs) (h0 : l ≠ []) (h63 : l.length ≤ 1000000) (hcs : cs.take l.length = l.map fun x => .int .u8 (x.toNat : Int)) :
    Quiet P (Builtin.unsafeString_ #[pt, it] ty #[.pointer (some ⟨b, 0, none⟩), .int .i64 (l.length : Int)]) w (.string (bs l)) (w.freeze ⟨b, 0, none⟩ l.length) := by
  have hle : l.length ≤ cs.length := by
    have := congrArg List.length hcs
    simp at this
    omega
  have hB : w.heap[b]? = some (.cells cs.toArray e (0, 0)) := hB
  have hl0 : l.length ≠ 0 := by simpa using h0
  have cell : ∀ W : World, W.heap[b]? = some (.cells cs.toArray e (0, 0)) → ∀ j x, l[j]? = some x → W.cell? ((⟨b, 0, none⟩ : Addr).add j) = some (.int .u8 (x.toNat : Int)) := fun W hW j x hj => by
    have hlt := (List.getElem?_eq_some_iff.1 hj).1
    have h1 : cs[j]? = some (.int .u8 (x.toNat : Int)) := by
      have h2 : (cs.take l.length)[j]? = some (.int .u8 (x.toNat : Int)) := by rw [hcs, List.getElem?_map, hj]; rfl
      rwa [List.getElem?_take_of_lt hlt] at h2
    by_cases h0j : j = 0
    · subst h0j; simp [World.cell?, Addr.add, hW, h1]
    · simp [World.cell?, Addr.add, hW, h1, h0j]
  intro O Z W hl
  have hO : O b := Classical.byContradiction fun hn => by
    rcases hl.rest b _ hn hB with ⟨t2, f2, e2⟩ | ⟨_, c, t, f, _, e2⟩
    · injection e2 with e2
      have h3 : cs.length = 0 := by simpa using congrArg Array.size e2
      omega
    · simp [glass] at e2
  obtain ⟨o, o1, o2, o3⟩ := hl.own b hO
  have hW : W.heap[b]? = some (.cells cs.toArray e (0, 0)) := by
    rw [hB] at o1
    rw [o2, ← o1]
  have hsh : W.shape? b = some (e, cs.length) := by simp [World.shape?, hW]
  have hrun := Lib.run_unsafeString_row (P := P) (w := W) pt it ty e hp hc b cs.length hsh l h0 hle (by omega) (cell W hW)
  have hlbW := Lib.run_loadBytes (P := P) W l ⟨b, 0, none⟩ .empty (cell W hW)
  have hlbw := Lib.run_loadBytes (P := P) w l ⟨b, 0, none⟩ .empty (cell w hB)
  obtain ⟨W2, hD, _, _⟩ := plain_run _ w W w O _ (plain_loadBytes l.length ⟨b, 0, none⟩ .empty) hl hlbw (.inr ⟨rfl, rfl⟩)
  have hf : ∀ X : World, X.freeze ⟨b, 0, none⟩ l.length = { X with heap := X.heap.modify b fun | .cells c elem (lo, hi) => .cells c elem (if lo == hi then (0, 0 + l.length) else (min lo 0, max hi (0 + l.length))) | o => o } := fun X => by
    unfold World.freeze
    rw [if_neg hl0]
    rfl
  have hne : ∀ (X : World) (k : Nat), k ≠ b → (X.freeze ⟨b, 0, none⟩ l.length).heap[k]? = X.heap[k]? := fun X k hk => by
    rw [hf]
    simp only [Array.getElem?_modify]
    rw [if_neg (fun h => hk h.symm)]
  have hsz : ∀ X : World, (X.freeze ⟨b, 0, none⟩ l.length).heap.size = X.heap.size := fun X => by rw [hf]; simp
  have hat : ∀ X : World, X.heap[b]? = some (.cells cs.toArray e (0, 0)) → (X.freeze ⟨b, 0, none⟩ l.length).heap[b]? = some (.cells cs.toArray e (0, 0 + l.length)) := fun X hX => by
    rw [hf]
    simp only [Array.getElem?_modify, if_true, hX]
    rfl
  refine ⟨W.freeze ⟨b, 0, none⟩ l.length, ⟨hrun, by rw [hf], by rw [hf], by rw [hf], by rw [hsz]; exact Nat.le_refl _, fun k _ hk => hne W k fun h => hk (h ▸ hO), fun ev hev => ?_⟩, ?_, by rw [hf]⟩
  · rw [grow_same (hsz W)]
    have hW2 : W2 = W := by
      have h1 := hD.run
      rw [hlbW] at h1
      injection h1 with _ h1
      exact h1.symm
    subst hW2
    have h2 := hD.evs
    rw [grow_self] at h2
    refine h2 ev ?_
    have hlies := Lib.liesAt_bytes (P := P) hc (cs.length / P.cellsOf e) l.length (by rw [hc]; simpa using hle)
    have h63' : ¬ (9223372036854775807 : Int) < (l.length : Int) := by omega
    obtain ⟨e1, u1, u2, hdef⟩ : ∃ e1 u1 u2, Builtin.unsafeString_ #[pt, it] ty #[.pointer (some ⟨b, 0, none⟩), .int .i64 l.length] =
        (do
          let n ← asInt (.int .i64 l.length)
          if n < 0 then runtimePanic e1
          if n > IntKind.i64.max then unsupported u1
          if n = 0 then pure (.string .empty)
          else if ← variablesAt ⟨b, 0, none⟩ (← elemOf pt) n.toNat then do
            let s ← Go.loadBytes ⟨b, 0, none⟩ .empty n.toNat
            freeze ⟨b, 0, none⟩ n.toNat
            pure (.string s)
          else unsupported u2) := ⟨_, _, _, rfl⟩
    have hmax : IntKind.i64.max = 9223372036854775807 := rfl
    have hneg : ¬ (l.length : Int) < 0 := by omega
    rw [hdef] at hev
    simpa [asInt, asIntOf, hmax, h63', hneg, h0, variablesAt, hsh, elemOf, run_underlying hp, hlies, hlbW] using hev
  · rw [grow_same (hsz W)]
    refine ⟨by rw [hf, hf]; exact hl.os, by rw [hf, hf]; exact hl.tape, by rw [hf, hf]; exact hl.output, by rw [hsz, hsz]; exact hl.size, fun k hk => ?_, fun k o hk h => ?_, fun k t hk h => ?_⟩
    · by_cases hkb : k = b
      · subst hkb
        exact ⟨_, hat w hB, hat W hW, rfl⟩
      · rw [hne w k hkb, hne W k hkb]
        exact hl.own k hk
    · have hkb : k ≠ b := fun h => hk (h ▸ hO)
      rw [hne w k hkb] at h
      rw [hne W k hkb]
      exact hl.rest k o hk h
    · have hkb : k ≠ b := fun h => hk (h ▸ hO)
      rw [hne w k hkb] at h
      rw [hne W k hkb]
      exact hl.flat k t hk h
end
end Go.Proofs.YtgcbcagaibecbaaGreatDoor

namespace Go.Proofs.YtgcbcagaibecbaaGreatDoor
set_option maxRecDepth 20000
open Go Ev Gap
variable [Go.Proofs.YtgcbcagaibecbaaGreatDoor.Gap.Leaps]

theorem strCells_enc (l : List UInt8) : Lib.strCells (bs l) = l.flatMap encU := by
  induction l with
  | nil => rfl
  | cons x l ih => rw [List.flatMap_cons, ← ih]; rfl
theorem flatU (l : List UInt8) : l.flatMap encU = l.map fun x => .int .u8 (x.toNat : Int) := by
  induction l with
  | nil => rfl
  | cons x l ih => rw [List.flatMap_cons, ih]; rfl
theorem Ev.St.appStr {P : Program} {w0 w : World} {S : Nat → Prop} {H : List Ent} (h : St w0 S w H) (i : Nat) {t u e : TypeId} {inf : TypeInfo} {g n cap : Nat} {xs l : List UInt8} {k : Value → World → Prop}
    (hu : P.underlying t = some (.slice e)) (hs : P.underlying u = some .string) (hif : P.info? e = some inf) (h1 : inf.size = 1) (hi : H[i]? = some (ownL e 1 encU (.slice (some ⟨g, 0, none⟩) n cap) xs)) (hr : n + l.length ≤ cap)
    (hk : ∀ w', Ext (· = g) w w' → St w0 S w' (H.set i (ownL e 1 encU (.slice (some ⟨g, 0, none⟩) (n + l.length) cap) (xs ++ l))) → k (.slice (some ⟨g, 0, none⟩) (n + l.length) cap) w') :
    RunC P (Builtin.append_ #[t, u] 0 #[.slice (some ⟨g, 0, none⟩) n cap, .string (bs l)]) w k := by
  have ho := h.get i hi
  obtain ⟨hlen, ⟨h6, _⟩ | ⟨g', cap', cur, h6, _, h7, h8, h9, h10, h11⟩⟩ := ho
  · cases h6
  injection h6 with e1 e2 e3
  injection e1 with e1
  injection e1 with e1
  subst e1 e3
  have hx : xs.length = n := e2.symm
  have hsz : (bs l).size = l.length := bs_size l
  have hrun := Lib.run_append_room_string (P := P) w t u 0 e inf hu hs hif h1 g n cap cur h7 (bs l) (by omega) (by omega)
  rw [hsz] at hrun
  have hlt : g < w.heap.size := (Array.getElem?_eq_some_iff.1 h7).1
  generalize hcs : (cur.toList.take n ++ Lib.strCells (bs l) ++ cur.toList.drop (n + l.length)).toArray = cs at hrun
  have hset : (w.setRow g cs).heap[g]? = some (.cells cs e (0, 0)) := by
    simp [World.setRow, Array.getElem?_modify, h7]
  have hcl : cs.size = cap := by
    have hc : cur.toList.length = cap := by simpa using (by omega : cur.size = cap)
    rw [← hcs, List.size_toArray, List.length_append, List.length_append, strCells_enc, List.length_take, List.length_drop, hc, flat_len codU]
    omega
  have htk : cs.toList.take ((n + l.length) * 1) = (xs ++ l).flatMap encU := by
    have hc : cur.toList.length = cap := by simpa using (by omega : cur.size = cap)
    have hn1 : n * 1 = n := Nat.mul_one n
    rw [hx, hn1] at h11
    rw [← hcs, Nat.mul_one, List.toList_toArray, h11, strCells_enc, ← List.flatMap_append]
    refine List.take_left' ?_
    rw [flat_len codU, List.length_append, hx, Nat.mul_one]
  refine .quiet (plain_append _ _ _) hrun (by simp [World.setRow]) rfl (hk _ ?_ (h.upd i hi (T := (· = g)) (e' := ownL e 1 encU (.slice (some ⟨g, 0, none⟩) (n + l.length) cap) (xs ++ l)) ?_ (fun d hd => by simp [ownL, own, Value.ownBlock, hd]) ownL_local ?_ fun d hd => .inl (by simpa [ownL, own, Value.ownBlock] using hd)))
  · exact ⟨rfl, rfl, rfl, by simp [World.setRow], fun d hd hne => by simp only [World.setRow, Array.getElem?_modify]; rw [if_neg (fun e => hne e.symm)]⟩
  · exact ⟨rfl, rfl, rfl, by simp [World.setRow], fun d hd hne => by simp only [World.setRow, Array.getElem?_modify]; rw [if_neg (fun e => hne e.symm)]⟩
  · have e4 : (xs ++ l).length = n + l.length := by rw [List.length_append, hx]
    unfold ownL
    rw [e4]
    refine ⟨by rw [flat_len codU, e4], .inr ⟨g, cap, cs, rfl, Nat.zero_le _, hset, by omega, h9, by rw [hcl, Nat.mul_one], htk⟩⟩
end Go.Proofs.YtgcbcagaibecbaaGreatDoor

namespace Go.Proofs.YtgcbcagaibecbaaGreatDoor
set_option maxRecDepth 20000
open Go Ev Gap
variable [Go.Proofs.YtgcbcagaibecbaaGreatDoor.Gap.Leaps]

section
variable {P : Program} {O Z : Nat → Prop} {w W : World} {b : Nat} {e : TypeId} {cs : List Value}
theorem own_blk (hl : Lag O Z w W) (hB : Blk w b e cs) (hne : cs ≠ []) : O b ∧ W.heap[b]? = some (.cells cs.toArray e (0, 0)) := by
  have hB : w.heap[b]? = some (.cells cs.toArray e (0, 0)) := hB
  have hO : O b := Classical.byContradiction fun hn => by
    rcases hl.rest b _ hn hB with ⟨t2, f2, e2⟩ | ⟨_, c, t, f, _, e2⟩
    · injection e2 with e2
      exact hne (by simpa using e2)
    · simp [glass] at e2
  obtain ⟨o, o1, o2, o3⟩ := hl.own b hO
  rw [hB] at o1
  exact ⟨hO, by rw [o2, ← o1]⟩
theorem quiet_on {s : Sem Value} {v : Value} (hB : Blk w b e cs) (hne : cs ≠ []) (hr : ∀ W : World, W.heap[b]? = some (.cells cs.toArray e (0, 0)) → s.run P W = .ok v W) (hev : ∀ W : World, W.heap[b]? = some (.cells cs.toArray e (0, 0)) → s.events P W #[] = #[]) : Quiet P s w v w := fun O Z W hl => by
  obtain ⟨_, hW⟩ := own_blk hl hB hne
  exact ⟨W, ⟨hr W hW, rfl, rfl, rfl, Nat.le_refl _, fun _ _ _ => rfl, by rw [hev W hW]; simp⟩, by rw [grow_self]; exact hl, rfl⟩
theorem to_unsafe {src dst t : TypeId} {v0 : Value} {k : Value → World → Prop} (hB : Blk w b e (v0 :: cs)) (hs : P.underlying src = some (.pointer t)) (hd : P.underlying dst = some .unsafePointer) (hsz : (P.info? t).map (fun i => decide (i.size = 0)) = some false) (hk : k (.pointer (some ⟨b, 0, none⟩)) w) :
    RunC P (Go.convert src dst (.pointer (some ⟨b, 0, none⟩))) w k := by
  have hc : ∀ W : World, W.heap[b]? = some (.cells (v0 :: cs).toArray e (0, 0)) → W.cell? ⟨b, 0, none⟩ = some v0 := fun W hW => by simp [World.cell?, hW]
  exact ⟨.inl ⟨_, _, quiet_on hB (by simp) (fun W hW => run_convert_to_unsafe hs hd hsz (hc W hW)) (fun W hW => Go.Conc.events_convert_to_unsafe hs hd hsz (hc W hW) #[]), hk⟩⟩
theorem from_unsafe {src dst u : TypeId} {j : TypeInfo} {v0 : Value} {k : Value → World → Prop} (hB : Blk w b e (v0 :: cs)) (hs : P.underlying src = some .unsafePointer) (hd : P.underlying dst = some (.pointer u)) (hu : P.info? u = some j) (hlies : liesAt P P.depth e ((v0 :: cs).length / P.cellsOf e) 0 u 1 = true) (hk : k (.pointer (some ⟨b, 0, none⟩)) w) :
    RunC P (Go.convert src dst (.pointer (some ⟨b, 0, none⟩))) w k := by
  have hsh : ∀ W : World, W.heap[b]? = some (.cells (v0 :: cs).toArray e (0, 0)) → W.shape? b = some (e, (v0 :: cs).length) := fun W hW => by simp [World.shape?, hW]
  refine ⟨.inl ⟨_, _, quiet_on hB (by simp) (fun W hW => Lib.run_from_unsafe (w := W) (j := j) ⟨b, 0, none⟩ hs hd hu (hsh W hW) hlies) (fun W hW => ?_), hk⟩⟩
  have := hsh W hW
  simp only [List.length_cons] at this hlies
  simp [convert, run_underlying hs, run_underlying hd, Conv.unsafePointer, Conv.seenAt, viewAt, this, variablesAt, hlies, sizeOf, typeInfo, hu]
end
end Go.Proofs.YtgcbcagaibecbaaGreatDoor

namespace Go.Proofs.YtgcbcagaibecbaaGreatDoor
set_option maxRecDepth 20000
open Go Ev Gap
variable [Go.Proofs.YtgcbcagaibecbaaGreatDoor.Gap.Leaps]

theorem noEscape_ok (x : Value) (w : World) : CallC Tryz.prog 114 #[x] w fun v w' => v = x ∧ w = w' := by
  have hr : (callFunc 114 #[x]).run Tryz.prog w = .ok (.value x) w := by
    rw [run_callFunc_extern Tryz.func114 (by kernel_rfl) (by kernel_rfl) (by kernel_rfl) (e := Extern.AbiNoEscape.same) (by kernel_rfl), Lib.run_noEscape]
    simp [Result.andThen]
  exact CallC.extern (plain_extern Tryz.func114 (by kernel_rfl) (by kernel_rfl) (by kernel_rfl) (e := Extern.AbiNoEscape.same) (by kernel_rfl) _ trivial) hr rfl rfl ⟨rfl, rfl⟩
theorem ptrNe {P : Program} {t e : TypeId} {a : Addr} {k : Value → Prop} (hu : P.underlying t = some (.pointer e)) (hi : (P.info? e).isSome = true) (hk : k (.bool false)) : PureC P (Go.binOp .neq t (.pointer (some a)) (.pointer (some a))) k := by
  obtain ⟨j, hj⟩ := Option.isSome_iff_exists.1 hi
  refine PureC.of (fun w => Lib.run_neq_ptr_same w a hu hj) hk ?_
  refine plain_ne ?_
  unfold Op.equalIn
  refine plain_under_of hu ?_
  refine plain_size_of hi ?_
  have hs : sameAddr a a = (pure true : Sem Bool) := by
    unfold sameAddr
    simp
  split
  · rw [hs]; trivial
  · simp; trivial
section
variable {w : World} {b : Nat} {p v : Value}
theorem copyCheck0 (hB : Blk w b 155 [.pointer none, v]) : CallC Tryz.prog 103 #[.pointer (some ⟨b, 0, none⟩)] w fun _ w' => Ext (· = b) w w' ∧ Blk w' b 155 [.pointer (some ⟨b, 0, none⟩), v] := by
  have hS := (St.start w (· = b)).add (blk_local b _ _) hB (by simp [blk]; exact hB.lt) (by simp)
  refine fn_intro tabOk Tryz.func103 (by kernel_rfl) rfl Tryz.ntmps103 (Nat.le_of_ble_eq_true rfl) ?_
  (conv => whnf)
  refine hS.ld 0 rfl rfl ?_
  (conv => whnf)
  refine to_unsafe (hS.blk 0 rfl) Tryz.underlying152 Tryz.underlying78 (by kernel_rfl) ?_
  (conv => whnf)
  refine (noEscape_ok _ _).mono ?_
  rintro v1 w1 ⟨rfl, rfl⟩
  (conv => whnf)
  obtain ⟨j, hj⟩ : ∃ j, Tryz.prog.info? 155 = some j := Option.isSome_iff_exists.1 (by kernel_rfl)
  refine from_unsafe (hS.blk 0 rfl) Tryz.underlying78 Tryz.underlying152 hj (by kernel_rfl) ?_
  (conv => whnf)
  refine hS.st 0 rfl (Nat.le_of_ble_eq_true rfl) rfl (fun w' hS => ?_)
  repeat' ((conv => whnf); first | refine RetC.mk ?_ | refine NzC.mk (by decide) ?_ | refine RngC.mk (by omega) (by omega) ?_ | refine IdxC.mk (by omega) (by omega) ?_ | refine brD (fun _ => ?_) (fun _ => ?_) | refine brND (fun _ => ?_) (fun _ => ?_) | refine brN (fun _ => ?_) (fun _ => ?_) | refine brI (fun _ => ?_) (fun _ => ?_))
  exact ⟨hS.ext, hS.blk 0 rfl⟩
theorem copyCheck1 (hB : Blk w b 155 [.pointer (some ⟨b, 0, none⟩), v]) : CallC Tryz.prog 103 #[.pointer (some ⟨b, 0, none⟩)] w fun _ w' => w' = w := by
  have hS := (St.start w (· = b)).add (blk_local b _ _) hB (by simp [blk]; exact hB.lt) (by simp)
  refine fn_intro tabOk Tryz.func103 (by kernel_rfl) rfl Tryz.ntmps103 (Nat.le_of_ble_eq_true rfl) ?_
  (conv => whnf)
  refine hS.ld 0 rfl rfl ?_
  (conv => whnf)
  refine hS.ld 0 rfl rfl ?_
  (conv => whnf)
  refine ptrNe Tryz.underlying152 (by kernel_rfl) ?_
  repeat' ((conv => whnf); first | refine RetC.mk ?_ | refine NzC.mk (by decide) ?_ | refine RngC.mk (by omega) (by omega) ?_ | refine IdxC.mk (by omega) (by omega) ?_ | refine brD (fun _ => ?_) (fun _ => ?_) | refine brND (fun _ => ?_) (fun _ => ?_) | refine brN (fun _ => ?_) (fun _ => ?_) | refine brI (fun _ => ?_) (fun _ => ?_))
  rfl
end
end Go.Proofs.YtgcbcagaibecbaaGreatDoor

namespace Go.Proofs.YtgcbcagaibecbaaGreatDoor
set_option maxRecDepth 20000
open Go Ev Gap
variable [Go.Proofs.YtgcbcagaibecbaaGreatDoor.Gap.Leaps]

theorem noZero_ok {w0 w : World} {S : Nat → Prop} {H : List Ent} (h : St w0 S w H) (n : Nat) (hn : n ≤ 1000000) :
    CallC Tryz.prog 115 #[.int .i64 (n : Int)] w fun v w' => ∃ g cap, v = .slice (some ⟨g, 0, none⟩) n cap ∧ n ≤ cap ∧ w0.heap.size ≤ g ∧ Ext No w w' ∧ St w0 S w' (H ++ [ownL 5 1 encU (.slice (some ⟨g, 0, none⟩) 0 cap) []]) := by
  refine CallC.externL (plain_extern Tryz.func115 (by kernel_rfl) (by kernel_rfl) (by kernel_rfl) (e := Extern.BytealgMakeNoZero.makeNoZero #[3] #[153]) (by kernel_rfl) _ ?_) fun gn gd => ?_
  · obtain ⟨e1, e2, hdef⟩ : ∃ e1 e2, Extern.BytealgMakeNoZero.makeNoZero #[3] #[153] #[.int .i64 (n : Int)] = (do
        let .slice elem ← underlying 153 | stuck e1
        if (n : Int) < 0 || (n : Int) > 2 ^ 48 then runtimePanic e2
        let cap ← choose (.appendCap (n : Int).toNat 0 elem)
        askRoom cap
        let bytes ← choose (.extern "internal/bytealg.MakeNoZero.bytes" 0)
        let a ← newRow elem (Extern.BytealgMakeNoZero.digits cap bytes #[])
        pure (.slice (some a) (n : Int).toNat cap)) := ⟨_, _, rfl⟩
    rw [hdef]
    (repeat' first | with_reducible exact plain_askRoom _ | with_reducible exact plain_new rfl | with_reducible exact plain_under _ | with_reducible exact plain_size _ | with_reducible exact plain_agg _ | with_reducible exact plain_zero _ | with_reducible exact plain_info _ | with_reducible exact plain_asIntOf _ | with_reducible exact plain_asInt _ | with_reducible exact plain_asAgg _ | with_reducible exact plain_asAddr _ | with_reducible exact plain_asBool _ | with_reducible exact plain_sureAddr _ | with_reducible exact plain_bounds _ _ _ _ | with_reducible exact plain_panic _ | with_reducible exact plain_part _ _ _ | with_reducible exact plain_loadCells _ _ | with_reducible exact plain_storeCells _ _ _ | with_reducible exact plain_loadVar _ _ | with_reducible exact plain_storeVar _ _ _ | with_reducible exact plain_choose _ | with_reducible exact plain_askRoom _ | with_reducible exact plain_newRow _ _ | with_reducible exact plain_newVar _ _ | with_reducible exact plain_elemOf _ | with_reducible exact plain_load _ | with_reducible exact plain_store _ _ | with_reducible exact plain_stuck _ | with_reducible exact plain_unsupported _ | with_reducible exact plain_pure _ | with_reducible refine plain_bind ?_ fun _ => ?_ | with_reducible refine plain_map ?_ | with_reducible refine plain_ite ?_ ?_ | split | exact trivial | dsimp only)
  · replace h := h.gap gn gd
    have hx0 : Ext No w (Gap.wgap w gn gd) := Ext.gap _ _ gn gd
    generalize Gap.wgap w gn gd = W at h hx0
    obtain ⟨cs, hrun, hle, hmax⟩ := Lib.run_makeNoZero (P := Tryz.prog) W #[3] 153 5 Tryz.underlying153 n (by omega)
    have hc : (callFunc 115 #[.int .i64 (n : Int)]).run Tryz.prog W = .ok (.value (.slice (some ⟨W.heap.size, 0, none⟩) n cs.size)) (W.drew.drew.alloc (.cells cs 5)) := by
      rw [run_callFunc_extern Tryz.func115 (by kernel_rfl) (by kernel_rfl) (by kernel_rfl) (e := Extern.BytealgMakeNoZero.makeNoZero #[3] #[153]) (by kernel_rfl), hrun]
      rfl
    have hx : Ext No W (W.drew.drew.alloc (.cells cs 5)) := ⟨rfl, rfl, rfl, by show W.heap.size ≤ (W.heap.push _).size; rw [Array.size_push]; omega, fun k hk _ => by
      show (W.heap.push _)[k]? = _
      rw [Array.getElem?_push, if_neg (by omega)]⟩
    refine ⟨_, _, hc, _, _, rfl, hle, h.ext.size, hx0.trans hx, h.made hx ownL_local ⟨by simp, .inr ⟨W.heap.size, cs.size, cs, rfl, Nat.zero_le _, ?_, by simp, hmax (by unfold maxLen; omega), by simp, by simp⟩⟩ fun d hd => ?_⟩
    · show (W.heap.push _)[W.heap.size]? = _
      rw [Array.getElem?_push, if_pos rfl]
    · obtain rfl : d = W.heap.size := by simpa [ownL, own, Value.ownBlock] using hd
      exact ⟨Nat.le_refl _, by show W.heap.size < (W.heap.push _).size; rw [Array.size_push]; omega⟩
end Go.Proofs.YtgcbcagaibecbaaGreatDoor

namespace Go.Proofs.YtgcbcagaibecbaaGreatDoor
set_option maxRecDepth 20000
open Go Ev Gap
variable [Go.Proofs.YtgcbcagaibecbaaGreatDoor.Gap.Leaps]

theorem elem_of' {P : Program} {t e : TypeId} (h : P.underlying t = some (.slice e)) : P.elem t = e := by unfold Program.elem; rw [h]
theorem slcZ {P : Program} {t e : TypeId} {q : IntKind} {i : Int} {g n c : Nat} {k : Value → Prop} (hu : P.underlying t = some (.slice e)) (he : (P.info? e).isSome = true) (hi : i = 0) (hk : k (.slice (some ⟨g, 0, none⟩) 0 c)) : PureC P (Instr.sliceAt t (.slice (some ⟨g, 0, none⟩) n c) none (some (.int q i)) none) k := by
  subst hi
  have ht : P.underlying t = some (.slice (P.elem t)) := by rw [elem_of' hu]; exact hu
  refine PureC.of (fun w => ?_) hk
  rw [Go.run_sliceAt_slice w t _ _ _ _ ht, Go.run_slice_h w t _ n c ht q _ (by omega) (by omega), elem_of' hu, cellsOf_run he]
  by_cases h : c = 0
  · subst h; rfl
  · simp [sliced, h, Result.andThen, Addr.add]
section
variable {w : World} {b : Nat} {p v : Value}
theorem bgrow_ok (hB : Blk w b 155 [.pointer (some ⟨b, 0, none⟩), .slice none 0 0]) (n : Nat) (hn : n ≤ 1000000) : CallC Tryz.prog 104 #[.pointer (some ⟨b, 0, none⟩), .int .i64 (n : Int)] w fun _ w' => ∃ g cap, n ≤ cap ∧ St w (· = b) w' [blk b 155 [.pointer (some ⟨b, 0, none⟩), .slice (some ⟨g, 0, none⟩) 0 cap], ownL 5 1 encU (.slice (some ⟨g, 0, none⟩) 0 cap) []] := by
  have hS : St w (· = b) w [blk b 155 [.pointer (some ⟨b, 0, none⟩), .slice none 0 0]] := (St.start w (· = b)).add (blk_local b _ _) hB (by simp [blk]; exact hB.lt) (by simp)
  refine fn_intro tabOk Tryz.func104 (by kernel_rfl) rfl Tryz.ntmps104 (Nat.le_of_ble_eq_true rfl) ?_
  (conv => whnf)
  (refine drawS tabOk mixed [] (No) [0, 1, 2, 3, 4, 5, 6, 7, 9, 10, 11, 12, 13, 8, 14, 15] (by kernel_rfl) ?_; rintro w1 rfl; replace hS := hS.drew)
  (conv => whnf)
  refine hS.ldF 0 rfl rfl id ?_
  (conv => whnf)
  refine RngC.mk (by omega) (by omega) ?_
  (conv => whnf)
  refine RngC.mk (by omega) (by omega) ?_
  (conv => whnf)
  refine hS.ldF 0 rfl rfl id ?_
  (conv => whnf)
  rw [show (2 * ((0 : Nat) : Int) + (n : Int)) = (n : Int) by omega]
  refine (noZero_ok hS n hn).mono ?_
  rintro v1 w1 ⟨g, cap, rfl, hcap, hg, hx, hS⟩
  replace hS : St w (· = b) w1 [blk b 155 [.pointer (some ⟨b, 0, none⟩), .slice none 0 0], ownL 5 1 encU (.slice (some ⟨g, 0, none⟩) 0 cap) []] := hS
  refine KeepC.mk hx ?_
  (conv => whnf)
  refine slcZ Tryz.underlying153 (by kernel_rfl) rfl ?_
  (conv => whnf)
  refine hS.ld 0 rfl rfl ?_
  (conv => whnf)
  refine .quiet (plain_copy _ _ _) (run_copy_none _ _ _ _ 5 _ _ _ _ _ _ Tryz.underlying153 (by kernel_rfl) rfl) rfl rfl ?_
  (conv => whnf)
  refine hS.st 0 rfl (Nat.le_of_ble_eq_true rfl) rfl (fun w' hS => ?_)
  repeat' ((conv => whnf); first | refine RetC.mk ?_ | refine NzC.mk (by decide) ?_ | refine RngC.mk (by omega) (by omega) ?_ | refine IdxC.mk (by omega) (by omega) ?_ | refine brD (fun _ => ?_) (fun _ => ?_) | refine brND (fun _ => ?_) (fun _ => ?_) | refine brN (fun _ => ?_) (fun _ => ?_) | refine brI (fun _ => ?_) (fun _ => ?_))
  exact ⟨g, cap, hcap, hS⟩
end
end Go.Proofs.YtgcbcagaibecbaaGreatDoor

namespace Go.Proofs.YtgcbcagaibecbaaGreatDoor
set_option maxRecDepth 20000
open Go Ev Gap
variable [Go.Proofs.YtgcbcagaibecbaaGreatDoor.Gap.Leaps]

theorem stBase {w0 w1 w : World} {S : Nat → Prop} {H : List Ent} (h : St w1 S w H) (k : Ext S w0 w1) : St w0 S w H :=
  ⟨k.trans h.ext, h.each, h.loc, fun e he b hb => ⟨(h.may e he b hb).1.imp id fun x => Nat.le_trans k.size x, (h.may e he b hb).2⟩, h.apart⟩
def bld (b g cap : Nat) (xs : List UInt8) : List Ent := [blk b 155 [.pointer (some ⟨b, 0, none⟩), .slice (some ⟨g, 0, none⟩) xs.length cap], ownL 5 1 encU (.slice (some ⟨g, 0, none⟩) xs.length cap) xs]
section
variable {w0 w : World} {S : Nat → Prop} {b g cap : Nat} {xs l : List UInt8}
theorem bGrow_ok (hB : Blk w b 155 [.pointer none, .slice none 0 0]) (n : Nat) (h0 : 0 < n) (hn : n ≤ 1000000) : CallC Tryz.prog 86 #[.pointer (some ⟨b, 0, none⟩), .int .i64 (n : Int)] w fun _ w' => ∃ g cap, n ≤ cap ∧ St w (· = b) w' (bld b g cap []) := by
  refine fn_intro tabOk Tryz.func86 (by kernel_rfl) rfl Tryz.ntmps86 (Nat.le_of_ble_eq_true rfl) ?_
  (conv => whnf)
  refine (copyCheck0 hB).mono ?_
  rintro v1 w1 ⟨hx, hB1⟩
  have hS : St w1 (· = b) w1 [blk b 155 [.pointer (some ⟨b, 0, none⟩), .slice none 0 0]] := (St.start w1 (· = b)).add (blk_local b _ _) hB1 (by simp [blk]; exact hB1.lt) (by simp)
  have e1 : decide ((n : Int) < 0) = false := decide_eq_false (by omega)
  (conv => whnf)
  rw [e1]
  (conv => whnf)
  (refine drawS tabOk mixed [] No [0, 1, 2, 3, 4, 5, 6, 7, 8, 9, 10, 11, 12] (by kernel_rfl) ?_; rintro w1 rfl; replace hS := hS.drew)
  (conv => whnf)
  refine hS.ldF 0 rfl rfl id ?_
  (conv => whnf)
  refine hS.ldF 0 rfl rfl id ?_
  (conv => whnf)
  refine RngC.mk (by omega) (by omega) ?_
  (conv => whnf)
  have e2 : decide ((((0 : Nat) : Int) - ((0 : Nat) : Int)) < (n : Int)) = true := decide_eq_true (by omega)
  rw [e2]
  (conv => whnf)
  refine (bgrow_ok (hS.blk 0 rfl) n hn).mono ?_
  rintro v2 w2 ⟨g, cap, hcap, hS2⟩
  repeat' ((conv => whnf); first | refine RetC.mk ?_ | refine NzC.mk (by decide) ?_ | refine RngC.mk (by omega) (by omega) ?_ | refine IdxC.mk (by omega) (by omega) ?_ | refine brD (fun _ => ?_) (fun _ => ?_) | refine brND (fun _ => ?_) (fun _ => ?_) | refine brN (fun _ => ?_) (fun _ => ?_) | refine brI (fun _ => ?_) (fun _ => ?_))
  exact ⟨g, cap, hcap, stBase hS2 (hx.trans hS.ext)⟩
theorem bWrite_ok (hS : St w0 S w (bld b g cap xs)) (hr : xs.length + l.length ≤ cap) : CallC Tryz.prog 87 #[.pointer (some ⟨b, 0, none⟩), .string (bs l)] w fun _ w' => St w0 S w' (bld b g cap (xs ++ l)) := by
  unfold bld at hS
  obtain ⟨j, hj⟩ : ∃ j, Tryz.prog.info? 5 = some j := Option.isSome_iff_exists.1 (by kernel_rfl)
  have hj1 : j.size = 1 := by
    have : (Tryz.prog.info? 5).map (·.size) = some 1 := by kernel_rfl
    rw [hj] at this
    simpa using this
  refine fn_intro tabOk Tryz.func87 (by kernel_rfl) rfl Tryz.ntmps87 (Nat.le_of_ble_eq_true rfl) ?_
  (conv => whnf)
  refine (copyCheck1 (hS.blk 0 rfl)).mono ?_
  rintro v1 w1 rfl
  (conv => whnf)
  refine hS.ld 0 rfl rfl ?_
  (conv => whnf)
  refine hS.appStr 1 Tryz.underlying153 Tryz.underlying9 hj hj1 rfl hr (fun w2 hx hS => ?_)
  (conv => whnf)
  refine hS.st 0 rfl (Nat.le_of_ble_eq_true rfl) rfl (fun w' hS => ?_)
  repeat' ((conv => whnf); first | refine RetC.mk ?_ | refine NzC.mk (by decide) ?_ | refine RngC.mk (by omega) (by omega) ?_ | refine IdxC.mk (by omega) (by omega) ?_ | refine brD (fun _ => ?_) (fun _ => ?_) | refine brND (fun _ => ?_) (fun _ => ?_) | refine brN (fun _ => ?_) (fun _ => ?_) | refine brI (fun _ => ?_) (fun _ => ?_))
  unfold bld
  rw [List.length_append]
  exact hS
end
end Go.Proofs.YtgcbcagaibecbaaGreatDoor

namespace Go.Proofs.YtgcbcagaibecbaaGreatDoor
set_option maxRecDepth 20000
open Go Ev Gap
variable [Go.Proofs.YtgcbcagaibecbaaGreatDoor.Gap.Leaps]

theorem freeze_ext (w : World) (g n : Nat) : Ext (· = g) w (w.freeze ⟨g, 0, none⟩ n) := by
  unfold World.freeze
  split
  · exact Ext.refl _ _
  · exact ⟨rfl, rfl, rfl, by simp, fun k hk hne => by
      simp only [Array.getElem?_modify]
      rw [if_neg (fun e => hne e.symm)]⟩
section
variable {w0 w : World} {S : Nat → Prop} {b g cap : Nat} {xs l : List UInt8}
theorem bString_ok (hS : St w0 S w (bld b g cap xs)) (h0 : xs ≠ []) (hlen : xs.length ≤ 1000000) : CallC Tryz.prog 88 #[.pointer (some ⟨b, 0, none⟩)] w fun v w' => v = .string (bs xs) ∧ Ext (· = g) w w' := by
  unfold bld at hS
  have hbg : ¬ b = g := fun e => pairwise_at apart_symm hS.apart (i := 0) (j := 1) rfl rfl (by decide) b (by simp [blk]) (by simp [ownL, own, Value.ownBlock, e])
  obtain ⟨hl, ⟨h6, _⟩ | ⟨g', cap', cur, h6, _, h7, h8, h9, h10, h11⟩⟩ := hS.get 1 rfl
  · cases h6
  injection h6 with e1 e2 e3
  injection e1 with e1
  injection e1 with e1
  subst e1 e3
  have hpos : 0 < xs.length := List.length_pos_iff.2 h0
  have hcap : cap ≠ 0 := by omega
  have hBg : Blk w g 5 cur.toList := by
    show w.heap[g]? = _
    rw [h7]
  have htk : cur.toList.take xs.length = xs.map fun x => .int .u8 (x.toNat : Int) := by
    rw [← flatU, ← h11, Nat.mul_one]
  refine fn_intro tabOk Tryz.func88 (by kernel_rfl) rfl Tryz.ntmps88 (Nat.le_of_ble_eq_true rfl) ?_
  (conv => whnf)
  (refine drawS tabOk mixed [] ((· = g)) [0, 1, 2, 3, 5, 6, 7, 8, 9, 4, 10, 11] (by kernel_rfl) ?_; rintro w1 rfl; replace hS := hS.drew)
  (conv => whnf)
  refine hS.ldF 0 rfl rfl hbg ?_
  (conv => whnf)
  refine hS.ldF 0 rfl rfl hbg ?_
  (conv => whnf)
  refine ⟨hcap, KeepC.mk (Ext.refl _ _) ?_⟩
  (conv => whnf)
  refine ⟨.inl ⟨_, _, uns_quiet (e := 5) (by kernel_rfl) (by kernel_rfl) (w := { w with drawn := w.drawn + 1 }) hBg h0 hlen htk, KeepC.mk (freeze_ext _ _ _) ?_⟩⟩
  repeat' ((conv => whnf); first | refine RetC.mk ?_ | refine NzC.mk (by decide) ?_ | refine RngC.mk (by omega) (by omega) ?_ | refine IdxC.mk (by omega) (by omega) ?_ | refine brD (fun _ => ?_) (fun _ => ?_) | refine brND (fun _ => ?_) (fun _ => ?_) | refine brN (fun _ => ?_) (fun _ => ?_) | refine brI (fun _ => ?_) (fun _ => ?_))
  exact ⟨rfl, (Ext.drawn _ _ _).trans (freeze_ext _ _ _)⟩
end
end Go.Proofs.YtgcbcagaibecbaaGreatDoor

namespace Go.Proofs.YtgcbcagaibecbaaGreatDoor
set_option maxRecDepth 20000
open Go Ev Gap
variable [Go.Proofs.YtgcbcagaibecbaaGreatDoor.Gap.Leaps]

section
variable {xs r : List (List UInt8)} {c : UInt8} {x y : List UInt8} {k : Nat}
def lenK (xs : List (List UInt8)) (k : Nat) : Nat := ((xs.take k).map List.length).sum
theorem lenK_succ (h : xs[k]? = some x) : lenK xs (k + 1) = lenK xs k + x.length := by
  unfold lenK
  rw [List.take_add_one, h]
  simp
theorem lenK_mono : ∀ (xs : List (List UInt8)) (k : Nat), lenK xs k ≤ lenK xs xs.length
  | [], k => by simp [lenK]
  | x :: r, 0 => by simp [lenK]
  | x :: r, k + 1 => by
    have := lenK_mono r k
    simp only [lenK, List.take_succ_cons, List.map_cons, List.sum_cons, List.length_cons] at this ⊢
    omega
def jt (c : UInt8) (x : List UInt8) (r : List (List UInt8)) (k : Nat) : List UInt8 := x ++ Lib.joinTail [c] (r.take k)
theorem jt_zero : jt c x r 0 = x := by simp [jt, Lib.joinTail]
theorem jt_all : jt c x r r.length = Lib.join (x :: r) [c] := by rw [jt, List.take_length, Lib.join_cons]
theorem jt_succ (h : r[k]? = some y) : jt c x r (k + 1) = jt c x r k ++ [c] ++ y := by
  unfold jt Lib.joinTail
  rw [List.take_add_one, h]
  simp
theorem jt_len : ∀ (r : List (List UInt8)) (k : Nat), k ≤ r.length → (jt c x r k).length = x.length + k + lenK r k := fun r k hk => by
  induction k with
  | zero => simp [jt_zero, lenK]
  | succ k ih =>
    obtain ⟨y, hy⟩ : ∃ y, r[k]? = some y := ⟨_, List.getElem?_eq_getElem (by omega)⟩
    rw [jt_succ hy, List.length_append, List.length_append, ih (by omega), lenK_succ hy, List.length_singleton]
    omega
theorem lenK_cons : lenK (x :: r) (k + 1) = x.length + lenK r k := by simp [lenK]
end
theorem stRe {w0 w1 w : World} {S T : Nat → Prop} {H : List Ent} (h : St w1 T w H) (k : Ext S w0 w1) (hT : ∀ b, T b → S b ∨ w0.heap.size ≤ b) : St w0 S w H :=
  ⟨k.then h.ext hT, h.each, h.loc, fun e he b hb => ⟨(h.may e he b hb).1.elim (hT b) fun x => .inr (Nat.le_trans k.size x), (h.may e he b hb).2⟩, h.apart⟩
theorem slcFrom1 {P : Program} {t e : TypeId} {q : IntKind} {b o n c : Nat} {k : Value → Prop} (hu : P.underlying t = some (.slice e)) (he : (P.info? e).map (·.size) = some 1) (hn : 1 ≤ n) (hc : n ≤ c) (hc2 : 2 ≤ c) (hk : k (.slice (some ⟨b, o + 1, none⟩) (n - 1) (c - 1))) : PureC P (Instr.sliceAt t (.slice (some ⟨b, o, none⟩) n c) (some (.int q 1)) none none) k := by
  have ht : P.underlying t = some (.slice (P.elem t)) := by rw [elem_of' hu]; exact hu
  obtain ⟨i, hi, hs⟩ := Option.map_eq_some_iff.1 he
  refine PureC.of (fun w => ?_) hk
  rw [Go.run_sliceAt_slice w t _ _ _ _ ht, Go.run_slice_l w t _ n c ht q _ (by omega) (by omega), elem_of' hu, cellsOf_run (by rw [hi]; rfl)]
  have hs2 : P.cellsOf e = 1 := by simp [Program.cellsOf, hi, hs]
  have hc3 : ¬ c = 1 := by omega
  simp [sliced, hc3, hs2, Result.andThen, Addr.add]
set_option maxHeartbeats 1000000 in
theorem join_ok (x : List UInt8) (r : List (List UInt8)) (c : UInt8) {b o n cp : Nat} (w : World) (hn : r.length + 1 = n) (hc : CellsAt w b o ((x :: r).map fun l => .string (bs l))) (h0 : 2 ≤ n) (hcap : n ≤ cp) (hl : (Lib.join (x :: r) [c]).length ≤ 100000) :
    CallC Tryz.prog 67 #[.slice (some ⟨b, o, none⟩) n cp, .string (bs [c])] w fun v w' => v = .string (bs (Lib.join (x :: r) [c])) ∧ Ext No w w' := by
  have hS := St.start w No
  have hT : (Lib.join (x :: r) [c]).length = x.length + r.length + lenK r r.length := by rw [← jt_all, jt_len r r.length (Nat.le_refl _)]
  refine fn_intro tabOk Tryz.func67 (by kernel_rfl) rfl Tryz.ntmps67 (Nat.le_of_ble_eq_true rfl) ?_
  (conv => whnf)
  have e0 : ((n : Int) == 0) = false := by simp; omega
  have e1 : ((n : Int) == 1) = false := by simp; omega
  rw [e0]
  (conv => whnf)
  rw [e1]
  (conv => whnf)
  refine RngC.mk (by omega) (by omega) ?_
  (conv => whnf)
  have hd1 := Nat.div_le_self 9223372036854775807 (n - 1)
  have hd2 : 2 ≤ 9223372036854775807 / (n - 1) := (Nat.le_div_iff_mul_le (by omega)).2 (by omega)
  have hq : Int.tdiv 9223372036854775807 ((n : Int) - 1) = ((9223372036854775807 / (n - 1) : Nat) : Int) := by
    rw [show (n : Int) - 1 = ((n - 1 : Nat) : Int) by omega, Int.tdiv_eq_ediv_of_nonneg (by omega)]
    rfl
  refine NzC.mk (by omega) ?_
  rw [hq]
  generalize 9223372036854775807 / (n - 1) = q at hd1 hd2 ⊢
  have e2 : decide ((((bs [c]).size : Nat) : Int) ≥ (q : Int)) = false := decide_eq_false (by rw [bs_size]; simp; omega)
  refine RngC.mk (by omega) (by omega) ?_
  (conv => whnf)
  rw [e2]
  (conv => whnf)
  refine RngC.mk (by omega) (by omega) ?_
  (conv => whnf)
  have hs1 : ((bs [c]).size : Int) = 1 := rfl
  rw [hs1]
  refine RngC.mk (by omega) (by omega) ?_
  (conv => whnf)
  refine RngC.mk (by omega) (by omega) ?_
  (conv => whnf)
  have hT0 : (0 : Int) + 1 * ((n : Int) - 1) = ((n - 1 + lenK (x :: r) 0 : Nat) : Int) := by simp [lenK]; omega
  rw [hT0]
  refine loopR tabOk (fun σ w' q => ∃ k : Nat, σ = [(41, .int .i64 ((k : Nat) : Int)), (40, .int .i64 n), (39, .slice (some ⟨b, o, none⟩) n cp), (5, .int .i64 ((n - 1 + lenK (x :: r) k : Nat) : Int)), (0, .slice (some ⟨b, o, none⟩) n cp), (1, .string (bs [c]))] ∧ q = n - k ∧ k ≤ n ∧ St w No w' []) (σ' := [(41, .int .i64 ((0 : Nat) : Int)), (40, .int .i64 n), (39, .slice (some ⟨b, o, none⟩) n cp), (5, .int .i64 ((n - 1 + lenK (x :: r) 0 : Nat) : Int)), (0, .slice (some ⟨b, o, none⟩) n cp), (1, .string (bs [c]))]) (n := n) ⟨rfl, rfl, rfl, rfl, rfl, rfl, trivial⟩ ⟨0, rfl, rfl, Nat.zero_le _, hS⟩ ?_
  clear hS
  rintro _ w1 q ⟨k, rfl, rfl, hk, hS⟩
  (conv => whnf)
  refine brD (fun h3 => ?_) (fun h3 => ?_)
  · obtain ⟨y, hy⟩ : ∃ y, (x :: r)[k]? = some y := ⟨_, List.getElem?_eq_getElem (by simp; omega)⟩
    have hls := lenK_succ hy
    have hlm := lenK_mono (x :: r) (k + 1)
    have hlt : lenK (x :: r) (x :: r).length = x.length + lenK r r.length := lenK_cons
    have hcy : w.cell? ⟨b, o + k, none⟩ = some (.string (bs y)) := hc k _ (by rw [List.getElem?_map, hy]; rfl)
    (conv => whnf)
    refine IdxC.mk (by omega) (by omega) ?_
    (conv => whnf)
    refine hS.ldr (v := .string (bs y)) (by simpa using hcy) id ?_
    (conv => whnf)
    refine RngC.mk (by omega) (by omega) ?_
    (conv => whnf)
    refine brD (fun h4 => absurd h4 (by rw [bs_size]; omega)) (fun _ => ?_)
    (conv => whnf)
    refine RngC.mk (by rw [bs_size]; omega) (by rw [bs_size]; omega) ?_
    (conv => whnf)
    refine RngC.mk (by omega) (by omega) ?_
    (conv => whnf)
    rw [show ((n - 1 + lenK (x :: r) k : Nat) : Int) + (((bs y).size : Nat) : Int) = ((n - 1 + lenK (x :: r) (k + 1) : Nat) : Int) by rw [bs_size, hls]; omega]
    refine LoopE.mk ⟨_, [(41, .int .i64 ((k + 1 : Nat) : Int)), (40, _), (39, _), (5, _), (0, _), (1, _)], ?_, ⟨rfl, rfl, rfl, rfl, rfl, rfl, trivial⟩, ⟨k + 1, rfl, rfl, by omega, hS⟩⟩
    omega
  · obtain rfl : k = n := by omega
    (conv => whnf)
    refine hS.new (fun bB w2 hb hS2 => ?_)
    replace hS2 : St w No w2 [blk bB 155 [.pointer none, .slice none 0 0]] := hS2
    have hlk : lenK (x :: r) k = x.length + lenK r r.length := by rw [← hn]; exact lenK_cons
    have hlen : k - 1 + lenK (x :: r) k = (Lib.join (x :: r) [c]).length := by omega
    (conv => whnf)
    refine (bGrow_ok (hS2.blk 0 rfl) (k - 1 + lenK (x :: r) k) (by omega) (by omega)).mono ?_
    rintro v1 w3 ⟨g, cap, hcap2, hS3⟩
    replace hS3 : St w No w3 (bld bB g cap []) := stRe hS3 hS2.ext fun d hd => .inr (hd ▸ hb)
    (conv => whnf)
    refine IdxC.mk (by omega) (by omega) ?_
    (conv => whnf)
    refine hS3.ldr (v := .string (bs x)) (by have := hc 0 _ rfl; simpa using this) id ?_
    (conv => whnf)
    refine (bWrite_ok (l := x) hS3 (by simp; omega)).mono ?_
    rintro v2 w4 hS4
    replace hS4 : St w No w4 (bld bB g cap (jt c x r 0)) := by rw [jt_zero]; exact hS4
    (conv => whnf)
    refine slcFrom1 Tryz.underlying22 (by kernel_rfl) (by omega) (by omega) (by omega) ?_
    (conv => whnf)
    refine loopR tabOk (fun σ w' q => ∃ j : Nat, σ = [(65, .int .i64 ((j : Nat) : Int)), (64, .int .i64 ((k - 1 : Nat) : Int)), (63, .slice (some ⟨b, o + 1, none⟩) (k - 1) (cp - 1)), (8, .pointer (some ⟨bB, 0, none⟩)), (1, .string (bs [c]))] ∧ q = k - 1 - j ∧ j ≤ k - 1 ∧ St w No w' (bld bB g cap (jt c x r j))) (σ' := [(65, .int .i64 ((0 : Nat) : Int)), (64, .int .i64 ((k - 1 : Nat) : Int)), (63, .slice (some ⟨b, o + 1, none⟩) (k - 1) (cp - 1)), (8, .pointer (some ⟨bB, 0, none⟩)), (1, .string (bs [c]))]) (n := k - 1) ⟨rfl, rfl, rfl, rfl, rfl, trivial⟩ ⟨0, rfl, rfl, Nat.zero_le _, hS4⟩ ?_
    clear hS4 hS3 hS2 hS
    rintro _ w5 q ⟨j, rfl, rfl, hj, hS⟩
    have hjl := jt_len (c := c) (x := x) r
    (conv => whnf)
    refine brD (fun h3 => ?_) (fun h3 => ?_)
    · obtain ⟨y, hy⟩ : ∃ y, r[j]? = some y := ⟨_, List.getElem?_eq_getElem (by omega)⟩
      have hcy : w.cell? ⟨b, o + 1 + j, none⟩ = some (.string (bs y)) := by
        have := hc (j + 1) (.string (bs y)) (by rw [List.getElem?_map, List.getElem?_cons_succ, hy]; rfl)
        rw [show o + 1 + j = o + (j + 1) by omega]
        exact this
      have l1 := hjl j (by omega)
      have l2 := hjl (j + 1) (by omega)
      have l3 := lenK_succ hy
      have l4 := lenK_mono r (j + 1)
      (conv => whnf)
      refine IdxC.mk (by omega) (by omega) ?_
      (conv => whnf)
      refine hS.ldr (v := .string (bs y)) (by simpa using hcy) id ?_
      (conv => whnf)
      refine (bWrite_ok (l := [c]) hS (by simp; omega)).mono ?_
      rintro v6 w6 hS6
      (conv => whnf)
      refine (bWrite_ok (l := y) hS6 (by simp; omega)).mono ?_
      rintro v7 w7 hS7
      replace hS7 : St w No w7 (bld bB g cap (jt c x r (j + 1))) := by rw [jt_succ hy]; exact hS7
      (conv => whnf)
      refine RngC.mk (by omega) (by omega) ?_
      (conv => whnf)
      refine LoopE.mk ⟨_, [(65, .int .i64 ((j + 1 : Nat) : Int)), (64, _), (63, _), (8, _), (1, _)], ?_, ⟨rfl, rfl, rfl, rfl, rfl, trivial⟩, ⟨j + 1, rfl, rfl, by omega, hS7⟩⟩
      omega
    · obtain rfl : j = r.length := by omega
      rw [jt_all] at hS
      have hgn : w.heap.size ≤ g := (hS.may _ (List.mem_cons_of_mem _ (List.mem_cons_self ..)) g (by simp [ownL, own, Value.ownBlock])).1.resolve_left id
      (conv => whnf)
      refine (bString_ok hS (fun e => by rw [e] at hlen; simp at hlen; omega) (by omega)).mono ?_
      rintro v8 w8 ⟨rfl, hx8⟩
      repeat' ((conv => whnf); first | refine RetC.mk ?_ | refine NzC.mk (by decide) ?_ | refine RngC.mk (by omega) (by omega) ?_ | refine IdxC.mk (by omega) (by omega) ?_ | refine brD (fun _ => ?_) (fun _ => ?_) | refine brND (fun _ => ?_) (fun _ => ?_) | refine brN (fun _ => ?_) (fun _ => ?_) | refine brI (fun _ => ?_) (fun _ => ?_))
      exact ⟨rfl, hS.ext.then hx8 fun d hd => .inr (hd ▸ hgn)⟩
end Go.Proofs.YtgcbcagaibecbaaGreatDoor

namespace Go.Proofs.YtgcbcagaibecbaaGreatDoor
set_option maxRecDepth 20000
open Go Ev Go.RowKit
variable [Go.Proofs.YtgcbcagaibecbaaGreatDoor.Gap.Leaps]

theorem laid_one {L : List (String × DataW Unit)} {W : World} {n : String} {d : DataW Unit} (hl : laidMetH Tryz.prog L W) (hm : (n, d) ∈ L) (hd : d.handleName?.isNone = true) : laidMet Tryz.prog [(n, d)] W :=
  laidMet_sub (List.singleton_sublist.2 (List.mem_filter.2 ⟨hm, hd⟩)) (laidMetH_iff.1 hl).1
theorem pow10_of {L : List (String × DataW Unit)} {W : World} (hl : laidMetH Tryz.prog L W) (hm : ("internal/strconv.uint64pow10", Lib.tabData .u64 Lib.pow10Tab) ∈ L) : Pow10 W :=
  pow10_tab <| Lib.tabIs_of_head (g := 18) (t := 193) (e := 69) (n := 20) (by kernel_rfl) (by kernel_rfl) Tryz.underlying193 Tryz.underlying69 (by kernel_rfl) (by kernel_rfl) (laid_one hl hm rfl)
theorem strs_of_trod {H : Type} {enc : TypeId × Value → H} {P : Program} {w : World} {base : Nat} {sp : Nat → Bool} {held : Bool} {fuel : Nat} {t e : TypeId} {n : Nat} {cs : List Value} {zs : List (List UInt8)} {p : List MemPlace}
    (ht : P.underlying t = some (.array n e)) (he : P.underlying e = some .string) (hce : P.cellsOf e = 1) (hct : P.cellsOf t = n)
    (h : DataW.trod enc P w base sp held fuel t cs = some (.agg (zs.map fun z => .lit (.string z)), p)) : cs = zs.map fun z => Value.string (bs z) := by
  cases fuel with
  | zero => simp [DataW.trod] at h
  | succ fuel =>
    simp only [DataW.trod, ht, hce, hct, Nat.mul_one] at h
    split at h
    · rename_i hl
      obtain ⟨xs, hm, hx⟩ := Option.map_eq_some_iff.1 h
      have hxs : xs.map (·.1) = zs.map fun z => (DataW.lit (.string z) : DataW H) := by
        have := congrArg Prod.fst hx
        simpa using this
      have hxl : xs.length = n := by simpa using Lib.mapM_length hm
      have hzl : zs.length = n := by
        have := congrArg List.length hxs
        simp at this
        omega
      apply List.ext_getElem?
      intro i
      by_cases hi : i < n
      · obtain ⟨b, hb, hf⟩ := Lib.mapM_at hm i i (by simp [hi])
        obtain ⟨z, hc, rfl, _⟩ := DataW.trod_string he hf
        have h1 : cs[i]? = some (.string z) := by
          have := congrArg (·[0]?) hc
          simpa [List.getElem?_take, List.getElem?_drop] using this
        have h2 : (xs.map (·.1))[i]? = some (DataW.lit (.string z.data.toList) : DataW H) := by simp [hb]
        rw [hxs] at h2
        simp only [List.getElem?_map, Option.map_eq_some_iff, DataW.lit.injEq, Lit.string.injEq] at h2
        obtain ⟨z', hz', h3⟩ := h2
        rw [h1, List.getElem?_map, hz']
        show some (Value.string z) = some (Value.string (bs z'))
        rw [h3]
        simp [bs]
      · rw [List.getElem?_eq_none (by omega), List.getElem?_eq_none (by simp; omega)]
    · cases h
def Protos (w : World) : Prop := CellsAt w 12 0 [.string (bs [97, 110, 121]), .string (bs [117, 100, 112]), .string (bs [116, 99, 112])]
theorem Protos.no {w w' : World} (h : Protos w) (hx : Ext No w w') : Protos w' := hx.cells h id
theorem protos_of {L : List (String × DataW Unit)} {W : World} (hl : laidMetH Tryz.prog L W) (hm : ("twinrampart/policy.protos", .agg ([[97, 110, 121], [117, 100, 112], [116, 99, 112]].map fun z => .lit (.string z))) ∈ L) : Protos W := by
  obtain ⟨ps, ⟨g', t', cs, fuel, p, q, hg', ht', hvar, hd, _, _⟩, _⟩ := laid_one hl hm rfl
  have hg : Tryz.prog.globalNamed "twinrampart/policy.protos" = some 12 := by kernel_rfl
  have hty : (Tryz.prog.globals[12]?).map (·.type) = some 94 := by kernel_rfl
  obtain rfl := Option.some.inj (hg.symm.trans hg')
  obtain rfl := Option.some.inj (hty.symm.trans ht')
  have hc := strs_of_trod Tryz.underlying94 Tryz.underlying9 (by kernel_rfl) (by kernel_rfl) hd
  intro i v hv
  have := World.var?_cell hg hvar i
  rw [Nat.zero_add, this, ← Array.getElem?_toList, hc]
  exact hv
end Go.Proofs.YtgcbcagaibecbaaGreatDoor

namespace Go.Proofs.YtgcbcagaibecbaaGreatDoor
set_option maxRecDepth 20000
open Go Ev
variable [Go.Proofs.YtgcbcagaibecbaaGreatDoor.Gap.Leaps]

def sAllow : List UInt8 := [97, 108, 108, 111, 119]
def sDeny : List UInt8 := [100, 101, 110, 121]
def sOut : List UInt8 := [111, 117, 116]
def sIn : List UInt8 := [105, 110]
def sAny : List UInt8 := [97, 110, 121]
def sUdp : List UInt8 := [117, 100, 112]
def sTcp : List UInt8 := [116, 99, 112]
def protoB (p : Int) : List UInt8 := if p = 0 then sAny else if p = 1 then sUdp else sTcp
def RuleS.words (r : RuleS) : List (List UInt8) := [if r.allow = true then sAllow else sDeny, if r.out = true then sOut else sIn, protoB r.proto, Lib.itoa r.low ++ [45] ++ Lib.itoa r.top]
def RuleS.line (r : RuleS) : List UInt8 := Lib.join r.words [32]
theorem line_len (r : RuleS) (h1 : -9999 ≤ r.low ∧ r.low ≤ 99999) (h2 : -9999 ≤ r.top ∧ r.top ≤ 99999) : r.line.length ≤ 100 := by
  have e1 := Lib.itoa_length_le r.low (by omega) (by omega)
  have e2 := Lib.itoa_length_le r.top (by omega) (by omega)
  have w1 : (if r.allow = true then sAllow else sDeny).length ≤ 5 := by split <;> decide
  have w2 : (if r.out = true then sOut else sIn).length ≤ 3 := by split <;> decide
  have w3 : (protoB r.proto).length ≤ 3 := by
    unfold protoB
    split
    · decide
    · split <;> decide
  unfold RuleS.line RuleS.words
  rw [Lib.join_cons]
  simp only [Lib.joinTail, List.map_cons, List.map_nil, List.flatten_cons, List.flatten_nil, List.length_append, List.length_cons, List.length_nil]
  omega
def NumR (r : RuleS) : Prop := (-9999 ≤ r.low ∧ r.low ≤ 99999) ∧ (-9999 ≤ r.top ∧ r.top ≤ 99999)
section
variable {w : World} {G : RuleS → Prop} {a b : Option Addr} {n m c d : Nat} {xs ys : List RuleS}
theorem word_ok (i : Bool) (y z : List UInt8) (w : World) : CallC Tryz.prog 68 #[.bool i, .string (bs y), .string (bs z)] w fun v w' => v = .string (bs (if i = true then y else z)) ∧ Ext No w w' := by
  refine fn_intro tabOk Tryz.func68 (by kernel_rfl) rfl Tryz.ntmps68 (Nat.le_of_ble_eq_true rfl) ?_
  have hS := St.start w No
  cases i
  · repeat' ((conv => whnf); first | refine RetC.mk ?_ | refine NzC.mk (by decide) ?_ | refine RngC.mk (by omega) (by omega) ?_ | refine IdxC.mk (by omega) (by omega) ?_ | refine brD (fun _ => ?_) (fun _ => ?_) | refine brND (fun _ => ?_) (fun _ => ?_) | refine brN (fun _ => ?_) (fun _ => ?_) | refine brI (fun _ => ?_) (fun _ => ?_))
    exact ⟨rfl, hS.ext⟩
  · repeat' ((conv => whnf); first | refine RetC.mk ?_ | refine NzC.mk (by decide) ?_ | refine RngC.mk (by omega) (by omega) ?_ | refine IdxC.mk (by omega) (by omega) ?_ | refine brD (fun _ => ?_) (fun _ => ?_) | refine brND (fun _ => ?_) (fun _ => ?_) | refine brN (fun _ => ?_) (fun _ => ?_) | refine brI (fun _ => ?_) (fun _ => ?_))
    exact ⟨rfl, hS.ext⟩
theorem line_ok (r : RuleS) (hr : NumR r) (hp : 0 ≤ r.proto ∧ r.proto ≤ 2) (w : World) (ht : Pow10 w) (hP : Protos w) : CallC Tryz.prog 39 #[.agg (encRule r).toArray] w fun v w' => v = .string (bs r.line) ∧ Ext No w w' := by
  have hlen := line_len r hr.1 hr.2
  have e1 := Lib.itoa_length_le r.low (by have := hr.1; omega) (by have := hr.1; omega)
  have e2 := Lib.itoa_length_le r.top (by have := hr.2; omega) (by have := hr.2; omega)
  refine fn_intro tabOk Tryz.func39 (by kernel_rfl) rfl Tryz.ntmps39 (Nat.le_of_ble_eq_true rfl) ?_
  have hS := St.start w No
  (conv => whnf)
  refine hS.new (fun b w' hb hS => ?_)
  replace hS : St w No w' [blk b 41 (encRule r)] := hS
  (conv => whnf)
  (refine drawS tabOk mixed [] (No) [0, 1, 3, 4, 6, 7, 8, 9, 10, 11, 14, 15, 2, 5, 12, 13, 16, 17, 18, 19, 20] (by kernel_rfl) ?_; rintro w1 rfl; replace hS := hS.drew)
  (conv => whnf)
  refine hS.ldF 0 rfl rfl id ?_
  (conv => whnf)
  refine hS.ldF 0 rfl rfl id ?_
  (conv => whnf)
  refine hS.ldF 0 rfl rfl id ?_
  (conv => whnf)
  refine IdxC.mk (by omega) (by omega) ?_
  (conv => whnf)
  refine hS.ldrF (v := .string (bs (protoB r.proto))) (by
    have : r.proto = 0 ∨ r.proto = 1 ∨ r.proto = 2 := by omega
    rcases this with h | h | h
    · rw [h]; exact hP.one 0 rfl
    · rw [h]; exact hP.one 1 rfl
    · rw [h]; exact hP.one 2 rfl) id id ?_
  (conv => whnf)
  refine hS.ldF 0 rfl rfl id ?_
  (conv => whnf)
  refine hS.ldF 0 rfl rfl id ?_
  (conv => whnf)
  refine (word_ok r.allow sAllow sDeny _).mono ?_
  rintro v w1 ⟨rfl, hx'⟩
  replace hS := hS.no hx'
  have hK := hx'
  refine KeepC.mk hK ?_
  clear hx'
  (conv => whnf)
  refine (word_ok r.out sOut sIn _).mono ?_
  rintro v w2 ⟨rfl, hx'⟩
  replace hS := hS.no hx'
  replace hK := hK.trans hx'
  refine KeepC.mk hK ?_
  clear hx'
  (conv => whnf)
  refine (itoa_ok r.low hr.1.1 hr.1.2 _ (ht.no hS.ext)).mono ?_
  rintro v w3 ⟨rfl, hx'⟩
  replace hS := hS.no hx'
  replace hK := hK.trans hx'
  refine KeepC.mk hK ?_
  clear hx'
  (conv => whnf)
  refine addS (b := [45]) (by simp; omega) ?_
  (conv => whnf)
  refine (itoa_ok r.top hr.2.1 hr.2.2 _ (ht.no hS.ext)).mono ?_
  rintro v w4 ⟨rfl, hx'⟩
  replace hS := hS.no hx'
  replace hK := hK.trans hx'
  refine KeepC.mk hK ?_
  clear hx'
  (conv => whnf)
  refine addS (by simp; omega) ?_
  (conv => whnf)
  refine hS.litX (cs := r.words.map fun l => .string (bs l)) Tryz.underlying22 (sz := 1) (by kernel_rfl) (z := .string (bs [])) (by kernel_rfl) rfl rfl (by rfl) (fun bl w5 hbl hx' hS => ?_)
  replace hK := hK.trans hx'
  refine KeepC.mk hK ?_
  clear hx'
  have hc : CellsAt w5 bl 0 (r.words.map fun l => .string (bs l)) := (hS.blk 1 rfl).cells rfl
  (conv => whnf)
  refine (join_ok (if r.allow = true then sAllow else sDeny) [if r.out = true then sOut else sIn, protoB r.proto, Lib.itoa r.low ++ [45] ++ Lib.itoa r.top] 32 (n := 4) _ rfl hc (by decide) (Nat.le_refl _) (by show r.line.length ≤ _; omega)).mono ?_
  rintro v w6 ⟨rfl, hx'⟩
  replace hS := hS.no hx'
  replace hK := hK.trans hx'
  refine KeepC.mk hK ?_
  repeat' ((conv => whnf); first | refine RetC.mk ?_ | refine NzC.mk (by decide) ?_ | refine RngC.mk (by omega) (by omega) ?_ | refine IdxC.mk (by omega) (by omega) ?_ | refine brD (fun _ => ?_) (fun _ => ?_) | refine brND (fun _ => ?_) (fun _ => ?_) | refine brN (fun _ => ?_) (fun _ => ?_) | refine brI (fun _ => ?_) (fun _ => ?_))
  exact ⟨rfl, hS.ext⟩
end
end Go.Proofs.YtgcbcagaibecbaaGreatDoor

namespace Go.Proofs.YtgcbcagaibecbaaGreatDoor
set_option maxRecDepth 20000
open Go Ev
variable [Go.Proofs.YtgcbcagaibecbaaGreatDoor.Gap.Leaps]
def isDig (b : UInt8) : Bool := decide (48 ≤ b.toNat ∧ b.toNat ≤ 57)
def valD (l : List UInt8) : Nat := l.foldl (fun n b => 10 * n + (b.toNat - 48)) 0
theorem valD_app (l : List UInt8) (b : UInt8) : valD (l ++ [b]) = 10 * valD l + (b.toNat - 48) := by
  unfold valD
  rw [List.foldl_append]
  rfl
def numS (s : List UInt8) (most : Nat) : Int := if s.length < 1 ∨ s.length > most ∨ (s.length > 1 ∧ s[0]? = some 48) then -1 else if s.all isDig = true then (valD s : Nat) else -1
structure Canon (l : List UInt8) : Prop where
  ne : l ≠ []
  dig : ∀ b ∈ l, isDig b = true
  lead : 1 < l.length → l[0]? ≠ some 48
theorem isDig_iff {b : UInt8} : isDig b = true ↔ 48 ≤ b.toNat ∧ b.toNat ≤ 57 := decide_eq_true_iff
theorem u8_of {b : UInt8} (h : 48 ≤ b.toNat) : UInt8.ofNat (48 + (b.toNat - 48)) = b := by
  rw [show 48 + (b.toNat - 48) = b.toNat by omega]
  exact UInt8.ofNat_toNat
theorem numS_canon {s : List UInt8} {most : Nat} (h : 0 ≤ numS s most) : Canon s ∧ s.length ≤ most ∧ numS s most = (valD s : Nat) := by
  unfold numS at h ⊢
  split at h
  · omega
  rename_i h1
  rw [if_neg h1]
  split at h
  · rename_i h2
    rw [if_pos h2]
    refine ⟨⟨fun e => ?_, fun b hb => List.all_eq_true.1 h2 b hb, fun hl e => h1 (.inr (.inr ⟨hl, e⟩))⟩, by omega, rfl⟩
    subst e
    simp at h1
  · omega
theorem canon_numS {s : List UInt8} {most : Nat} (h : Canon s) (hl : s.length ≤ most) : numS s most = (valD s : Nat) := by
  unfold numS
  have hne := h.ne
  have h0 : 1 ≤ s.length := by
    cases s with
    | nil => exact absurd rfl hne
    | cons b s => simp
  rw [if_neg (by
    rintro (h1 | h1 | ⟨h1, h2⟩)
    · omega
    · omega
    · exact h.lead h1 h2), if_pos (List.all_eq_true.2 h.dig)]
theorem canon_init {l : List UInt8} {b : UInt8} (h : Canon (l ++ [b])) (hl : l ≠ []) : Canon l ∧ 1 ≤ valD l := by
  have hlen : 1 ≤ l.length := by
    cases l with
    | nil => exact absurd rfl hl
    | cons _ _ => simp
  have hlead : l[0]? ≠ some 48 := by
    have := h.lead (by simp; omega)
    rwa [List.getElem?_append_left (by omega)] at this
  have hd : ∀ c ∈ l, isDig c = true := fun c hc => h.dig c (List.mem_append_left _ hc)
  refine ⟨⟨hl, hd, fun _ => hlead⟩, ?_⟩
  have key : ∀ (n : Nat) (l : List UInt8), l.length = n + 1 → l[0]? ≠ some 48 → (∀ c ∈ l, isDig c = true) → 1 ≤ valD l := by
    intro n
    induction n with
    | zero =>
      intro l h1 h2 h3
      match l, h1 with
      | [c], _ =>
        have hc := isDig_iff.1 (h3 c List.mem_cons_self)
        have hne : c.toNat ≠ 48 := fun e => h2 (by
          have : c = 48 := UInt8.toNat_inj.1 e
          subst this
          rfl)
        show 1 ≤ 10 * 0 + (c.toNat - 48)
        omega
    | succ n ih =>
      intro l h1 h2 h3
      obtain ⟨r, c, rfl⟩ : ∃ r c, l = r ++ [c] := ⟨l.dropLast, l.getLast (by intro e; subst e; cases h1), (List.dropLast_concat_getLast _).symm⟩
      rw [List.length_append, List.length_singleton] at h1
      rw [List.getElem?_append_left (by omega)] at h2
      have := ih r (by omega) h2 fun c hc => h3 c (List.mem_append_left _ hc)
      rw [valD_app]
      omega
  exact key (l.length - 1) l (by omega) hlead hd
theorem canon_dec : ∀ (n : Nat) (l : List UInt8), l.length = n + 1 → Canon l → Lib.decDigits (valD l) = l := by
  intro n
  induction n with
  | zero =>
    intro l h1 h
    match l, h1 with
    | [c], _ =>
      have hc := isDig_iff.1 (h.dig c List.mem_cons_self)
      have hv : valD [c] = c.toNat - 48 := by show 10 * 0 + (c.toNat - 48) = _; omega
      rw [hv, Lib.decDigits_one (by omega), u8_of hc.1]
  | succ n ih =>
    intro l h1 h
    obtain ⟨r, c, rfl⟩ : ∃ r c, l = r ++ [c] := ⟨l.dropLast, l.getLast (by intro e; subst e; cases h1), (List.dropLast_concat_getLast _).symm⟩
    rw [List.length_append, List.length_singleton] at h1
    obtain ⟨g1, g2⟩ := canon_init h (by intro e; subst e; simp at h1)
    have hc := isDig_iff.1 (h.dig c (List.mem_append_right _ (List.mem_singleton.2 rfl)))
    rw [valD_app, Lib.decDigits, dif_neg (by omega), show (10 * valD r + (c.toNat - 48)) / 10 = valD r by omega, show (10 * valD r + (c.toNat - 48)) % 10 = c.toNat - 48 by omega, ih r (by omega) g1, u8_of hc.1]
theorem dec_facts : ∀ n : Nat, Lib.decDigits n ≠ [] ∧ (∀ b ∈ Lib.decDigits n, isDig b = true) ∧ (1 ≤ n → (Lib.decDigits n)[0]? ≠ some 48) ∧ valD (Lib.decDigits n) = n ∧ (n < 10 → (Lib.decDigits n).length = 1) := by
  intro n
  induction n using Nat.strongRecOn with
  | ind n ih =>
    by_cases h : n < 10
    · rw [Lib.decDigits_one h]
      have ht : (UInt8.ofNat (48 + n)).toNat = 48 + n := by
        rw [UInt8.toNat_ofNat']
        omega
      refine ⟨by simp, fun b hb => ?_, fun h1 => ?_, ?_, fun _ => rfl⟩
      · obtain rfl := List.mem_singleton.1 hb
        rw [isDig_iff, ht]
        omega
      · simp only [List.getElem?_cons_zero, ne_eq, Option.some.injEq]
        intro e
        have := congrArg UInt8.toNat e
        rw [ht] at this
        have h48 : (48 : UInt8).toNat = 48 := rfl
        omega
      · show 10 * 0 + ((UInt8.ofNat (48 + n)).toNat - 48) = n
        rw [ht]
        omega
    · obtain ⟨i1, i2, i3, i4, _⟩ := ih (n / 10) (by omega)
      rw [Lib.decDigits, dif_neg h]
      have ht : (UInt8.ofNat (48 + n % 10)).toNat = 48 + n % 10 := by
        rw [UInt8.toNat_ofNat']
        omega
      have hl : 0 < (Lib.decDigits (n / 10)).length := List.length_pos_iff.2 i1
      refine ⟨by simp, fun b hb => ?_, fun h1 => ?_, ?_, fun h1 => absurd h1 h⟩
      · rcases List.mem_append.1 hb with hb | hb
        · exact i2 b hb
        · obtain rfl := List.mem_singleton.1 hb
          rw [isDig_iff, ht]
          omega
      · rw [List.getElem?_append_left hl]
        exact i3 (by omega)
      · rw [valD_app, i4, ht]
        omega
theorem dec_canon (n : Nat) : Canon (Lib.decDigits n) := by
  obtain ⟨h1, h2, h3, _, h5⟩ := dec_facts n
  exact ⟨h1, h2, fun hl => h3 (by
    refine Nat.le_of_not_lt fun h => ?_
    have := h5 (by omega)
    omega)⟩
theorem itoa_nat (n : Nat) : Lib.itoa (n : Int) = Lib.decDigits n := by
  unfold Lib.itoa
  rw [if_neg (by omega), Int.toNat_natCast]
theorem canon_itoa {s : List UInt8} (h : Canon s) : Lib.itoa (valD s : Nat) = s := by
  rw [itoa_nat]
  refine canon_dec (s.length - 1) s ?_ h
  have := List.length_pos_iff.2 h.ne
  omega
theorem itoa_canon {v : Int} (h : 0 ≤ v) : Canon (Lib.itoa v) ∧ (valD (Lib.itoa v) : Int) = v := by
  obtain ⟨n, rfl⟩ : ∃ n : Nat, v = n := ⟨v.toNat, by omega⟩
  rw [itoa_nat]
  exact ⟨dec_canon n, by rw [(dec_facts n).2.2.2.1]⟩
theorem parse_dig : ∀ (l : List UInt8) (acc : Nat), (∀ b ∈ l, isDig b = true) → (acc + 1) * 10 ^ l.length ≤ 1000000000000000000 → Lib.parseUint10 acc l = .ok (l.foldl (fun n b => 10 * n + (b.toNat - 48)) acc)
  | [], _, _, _ => rfl
  | b :: l, acc, h, hb => by
    have hd := isDig_iff.1 (h b List.mem_cons_self)
    rw [List.length_cons, Nat.pow_succ] at hb
    have h1 : (acc * 10 + (b.toNat - 48) + 1) * 10 ^ l.length ≤ 1000000000000000000 := by
      refine Nat.le_trans (Nat.mul_le_mul_right _ (show acc * 10 + (b.toNat - 48) + 1 ≤ (acc + 1) * 10 by omega)) ?_
      rw [Nat.mul_assoc, Nat.mul_comm 10]
      exact hb
    have h10 : 1 ≤ 10 ^ l.length := Nat.one_le_pow _ _ (by omega)
    have h2 : acc * 10 + (b.toNat - 48) + 1 ≤ 1000000000000000000 := Nat.le_trans (Nat.le_mul_of_pos_right _ h10) h1
    simp only [Lib.parseUint10]
    rw [if_pos hd, if_neg (by omega), if_neg (by omega), parse_dig l _ (fun c hc => h c (List.mem_cons_of_mem _ hc)) h1, List.foldl_cons, Nat.mul_comm acc]
theorem atoi_canon {s : List UInt8} (h : Canon s) (hl : s.length ≤ 18) : Lib.atoiAll s = .ok (valD s : Nat) := by
  obtain ⟨c, r, rfl⟩ : ∃ c r, s = c :: r := by
    cases s with
    | nil => exact absurd rfl h.ne
    | cons c r => exact ⟨c, r, rfl⟩
  have hd := isDig_iff.1 (h.dig c List.mem_cons_self)
  have hp : (0 + 1) * 10 ^ (c :: r).length ≤ 1000000000000000000 := by
    rw [Nat.zero_add, Nat.one_mul]
    exact Nat.pow_le_pow_right (by omega) hl
  have hv := parse_dig (c :: r) 0 h.dig hp
  have hlt : valD (c :: r) < 1000000000000000001 := by
    have key : ∀ (l : List UInt8) (acc : Nat), (∀ b ∈ l, isDig b = true) → l.foldl (fun n b => 10 * n + (b.toNat - 48)) acc < (acc + 1) * 10 ^ l.length := by
      intro l
      induction l with
      | nil => intro acc _; simp
      | cons b l ih =>
        intro acc hb
        have hd := isDig_iff.1 (hb b List.mem_cons_self)
        have := ih (10 * acc + (b.toNat - 48)) fun c hc => hb c (List.mem_cons_of_mem _ hc)
        rw [List.foldl_cons, List.length_cons, Nat.pow_succ]
        refine Nat.lt_of_lt_of_le this ?_
        rw [Nat.mul_comm (10 ^ l.length) 10, ← Nat.mul_assoc]
        exact Nat.mul_le_mul_right _ (by omega)
    exact Nat.lt_succ_of_le (Nat.le_trans (Nat.le_of_lt (key (c :: r) 0 h.dig)) hp)
  unfold Lib.atoiAll
  dsimp only
  rw [if_neg (by omega)]
  unfold Lib.parseMag
  rw [if_neg (by simp), hv]
  dsimp only
  show (if ¬ c.toNat = 45 ∧ 9223372036854775808 ≤ valD (c :: r) then _ else _) = _
  rw [if_neg (by omega), if_neg (by omega), if_neg (by omega)]
  rfl
end Go.Proofs.YtgcbcagaibecbaaGreatDoor

namespace Go.Proofs.YtgcbcagaibecbaaGreatDoor
set_option maxRecDepth 20000
open Go Ev
variable [Go.Proofs.YtgcbcagaibecbaaGreatDoor.Gap.Leaps]
def cutR (c : UInt8) : List UInt8 → List (List UInt8)
  | [] => [[]]
  | b :: l => if b = c then [] :: cutR c l else match cutR c l with
    | w :: ws => (b :: w) :: ws
    | [] => [[b]]
theorem cutR_ne (c : UInt8) (l : List UInt8) : cutR c l ≠ [] := by
  cases l with
  | nil => simp [cutR]
  | cons b l =>
    unfold cutR
    split
    · simp
    · split <;> simp
theorem cutR_cons (c : UInt8) (l : List UInt8) : ∃ w ws, cutR c l = w :: ws := by
  cases h : cutR c l with
  | nil => exact absurd h (cutR_ne c l)
  | cons w ws => exact ⟨w, ws, rfl⟩
theorem cutR_eq (c : UInt8) (l : List UInt8) : cutR c (c :: l) = [] :: cutR c l := by
  show (if c = c then _ else _) = _
  rw [if_pos rfl]
theorem cutR_other {c b : UInt8} {l : List UInt8} (h : b ≠ c) {w : List UInt8} {ws : List (List UInt8)} (hw : cutR c l = w :: ws) : cutR c (b :: l) = (b :: w) :: ws := by
  show (if b = c then _ else match cutR c l with | w :: ws => _ | [] => _) = _
  rw [if_neg h, hw]
theorem cutR_word {c : UInt8} : ∀ (w l : List UInt8), c ∉ w → cutR c (w ++ c :: l) = w :: cutR c l
  | [], l, _ => cutR_eq c l
  | b :: w, l, h => by
    have hb : b ≠ c := fun e => h (e ▸ List.mem_cons_self)
    exact cutR_other hb (cutR_word w l fun hc => h (List.mem_cons_of_mem _ hc))
theorem cutR_one {c : UInt8} : ∀ (w : List UInt8), c ∉ w → cutR c w = [w]
  | [], _ => rfl
  | b :: w, h => by
    have hb : b ≠ c := fun e => h (e ▸ List.mem_cons_self)
    exact cutR_other hb (cutR_one w fun hc => h (List.mem_cons_of_mem _ hc))
theorem join_cc (x y : List UInt8) (r : List (List UInt8)) (sep : List UInt8) : Lib.join (x :: y :: r) sep = x ++ (sep ++ Lib.join (y :: r) sep) := by
  rw [Lib.join_cons, Lib.join_cons]
  simp [Lib.joinTail, List.append_assoc]
theorem cutR_join {c : UInt8} : ∀ (ws : List (List UInt8)), ws ≠ [] → (∀ w ∈ ws, c ∉ w) → cutR c (Lib.join ws [c]) = ws
  | [], h, _ => absurd rfl h
  | [w], _, h => by
    rw [Lib.join_one]
    exact cutR_one w (h w List.mem_cons_self)
  | w :: v :: r, _, h => by
    rw [join_cc, List.singleton_append, cutR_word w _ (h w List.mem_cons_self), cutR_join (v :: r) (by simp) fun u hu => h u (List.mem_cons_of_mem _ hu)]
theorem join_cutR (c : UInt8) : ∀ l : List UInt8, Lib.join (cutR c l) [c] = l
  | [] => Lib.join_one _ _
  | b :: l => by
    have ih := join_cutR c l
    obtain ⟨w, ws, hw⟩ := cutR_cons c l
    by_cases h : b = c
    · subst h
      rw [cutR_eq, hw, join_cc, ← hw, ih]
      rfl
    · rw [cutR_other h hw]
      rw [hw] at ih
      rw [Lib.join_cons] at ih ⊢
      rw [List.cons_append, ih]
theorem cutR_no {c : UInt8} : ∀ (l w : List UInt8), w ∈ cutR c l → c ∉ w
  | [], w, h => by
    obtain rfl := List.mem_singleton.1 h
    simp
  | b :: l, w, h => by
    obtain ⟨v, vs, hv⟩ := cutR_cons c l
    have ih := cutR_no (c := c) l
    rw [hv] at ih
    by_cases hb : b = c
    · subst hb
      rw [cutR_eq, hv] at h
      rcases List.mem_cons.1 h with rfl | h
      · simp
      · exact ih w h
    · rw [cutR_other hb hv] at h
      rcases List.mem_cons.1 h with rfl | h
      · intro hc
        rcases List.mem_cons.1 hc with e | hc
        · exact hb e.symm
        · exact ih v List.mem_cons_self hc
      · exact ih w (List.mem_cons_of_mem _ h)
def cutStep (c : UInt8) (p : List (List UInt8) × List UInt8) (b : UInt8) : List (List UInt8) × List UInt8 := if b = c then (p.1 ++ [p.2], []) else (p.1, p.2 ++ [b])
def cutF (c : UInt8) (l : List UInt8) : List (List UInt8) × List UInt8 := l.foldl (cutStep c) ([], [])
theorem cutF_step {c b : UInt8} {l : List UInt8} {k : Nat} (h : l[k]? = some b) : cutF c (l.take (k + 1)) = cutStep c (cutF c (l.take k)) b := by
  unfold cutF
  rw [List.take_add_one, h, List.foldl_append]
  rfl
theorem cutF_gen (c : UInt8) : ∀ (l : List UInt8) (out : List (List UInt8)) (w v : List UInt8) (vs : List (List UInt8)), cutR c l = v :: vs → (l.foldl (cutStep c) (out, w)).1 ++ [(l.foldl (cutStep c) (out, w)).2] = out ++ ((w ++ v) :: vs)
  | [], out, w, v, vs, h => by
    cases h
    simp
  | b :: l, out, w, v, vs, h => by
    obtain ⟨u, us, hu⟩ := cutR_cons c l
    rw [List.foldl_cons]
    by_cases hb : b = c
    · subst hb
      rw [cutR_eq, hu] at h
      cases h
      have := cutF_gen b l (out ++ [w]) [] u us hu
      rw [show cutStep b (out, w) b = (out ++ [w], []) from if_pos rfl, this]
      simp
    · rw [cutR_other hb hu] at h
      obtain ⟨rfl, rfl⟩ := List.cons.inj h
      have := cutF_gen c l out (w ++ [b]) u us hu
      rw [show cutStep c (out, w) b = (out, w ++ [b]) from if_neg hb, this]
      simp
theorem cutF_cutR (c : UInt8) (l : List UInt8) : (cutF c l).1 ++ [(cutF c l).2] = cutR c l := by
  obtain ⟨v, vs, h⟩ := cutR_cons c l
  rw [h]
  exact cutF_gen c l [] [] v vs h
theorem cutF_len (c : UInt8) (l : List UInt8) : (cutF c l).1.length ≤ l.length ∧ (cutF c l).2.length ≤ l.length := by
  have key : ∀ (l : List UInt8) (p : List (List UInt8) × List UInt8), (l.foldl (cutStep c) p).1.length ≤ p.1.length + l.length ∧ (l.foldl (cutStep c) p).2.length ≤ p.2.length + l.length := by
    intro l
    induction l with
    | nil => exact fun p => ⟨Nat.le_refl _, Nat.le_refl _⟩
    | cons b l ih =>
      intro p
      obtain ⟨h1, h2⟩ := ih (cutStep c p b)
      rw [List.foldl_cons, List.length_cons]
      unfold cutStep at h1 h2 ⊢
      split at h1
      · rename_i hb
        rw [if_pos hb] at h2 ⊢
        simp only [List.length_append, List.length_singleton, List.length_nil] at h1 h2
        omega
      · rename_i hb
        rw [if_neg hb] at h2 ⊢
        simp only [List.length_append, List.length_singleton] at h1 h2
        omega
  have := key l ([], [])
  simp only [List.length_nil, Nat.zero_add] at this
  exact this
theorem cutR_len (c : UInt8) (l : List UInt8) : (cutR c l).length ≤ l.length + 1 := by
  rw [← cutF_cutR, List.length_append, List.length_singleton]
  have := (cutF_len c l).1
  omega
theorem cut_two {c : UInt8} {l a b : List UInt8} {r : List (List UInt8)} (h : cutR c l = a :: b :: r) : Lib.cut l [c] = (a, Lib.join (b :: r) [c], true) := by
  have hl := join_cutR c l
  have hna := cutR_no (c := c) l a (by rw [h]; exact List.mem_cons_self)
  rw [h, join_cc, List.singleton_append] at hl
  have hi : ∀ (a t : List UInt8), c ∉ a → Lib.index (a ++ c :: t) [c] = (a.length : Int) := by
    intro a
    induction a with
    | nil =>
      intro t _
      show (if ([c] : List UInt8).isPrefixOf (c :: t) = true then (0 : Int) else _) = _
      rw [if_pos (by simp)]
      rfl
    | cons x a ih =>
      intro t hx
      have hxc : x ≠ c := fun e => hx (e ▸ List.mem_cons_self)
      have h2 := ih t fun hc => hx (List.mem_cons_of_mem _ hc)
      show (if ([c] : List UInt8).isPrefixOf (x :: (a ++ c :: t)) = true then (0 : Int) else if Lib.index (a ++ c :: t) [c] == -1 then -1 else Lib.index (a ++ c :: t) [c] + 1) = _
      rw [if_neg (by simp [List.isPrefixOf, Ne.symm hxc]), h2, if_neg (by simp only [beq_iff_eq]; omega), List.length_cons]
      omega
  rw [← hl]
  unfold Lib.cut
  rw [hi a _ hna, if_pos (by omega), Int.toNat_natCast, List.take_left, List.length_singleton]
  congr 2
  rw [show a.length + 1 = (a ++ [c]).length by simp, show a ++ c :: Lib.join (b :: r) [c] = (a ++ [c]) ++ Lib.join (b :: r) [c] by simp]
  exact List.drop_left
end Go.Proofs.YtgcbcagaibecbaaGreatDoor

namespace Go.Proofs.YtgcbcagaibecbaaGreatDoor
set_option maxRecDepth 20000
open Go Ev
variable [Go.Proofs.YtgcbcagaibecbaaGreatDoor.Gap.Leaps]
def protoK (w : List UInt8) : Int := if w = sAny then 0 else if w = sUdp then 1 else if w = sTcp then 2 else -1
def ruleOfS (s : List UInt8) : Option RuleS := match cutR 32 s with
  | [a, b, p, n] => if (a = sAllow ∨ a = sDeny) ∧ (b = sOut ∨ b = sIn) ∧ 0 ≤ protoK p then (match cutR 45 n with
    | [x, y] => if 0 ≤ numS x 5 ∧ 0 ≤ numS y 5 then some ⟨decide (a = sAllow), decide (b = sOut), protoK p, numS x 5, numS y 5⟩ else none
    | _ => none) else none
  | _ => none
theorem protoK_b {p : List UInt8} (h : 0 ≤ protoK p) : protoB (protoK p) = p ∧ protoK p ≤ 2 := by
  unfold protoK at h ⊢
  split
  · rename_i e
    exact ⟨e.symm, by decide⟩
  split
  · rename_i e
    exact ⟨e.symm, by decide⟩
  split
  · rename_i e
    exact ⟨e.symm, by decide⟩
  · rename_i e1 e2 e3
    rw [if_neg e1, if_neg e2, if_neg e3] at h
    exact absurd h (by decide)
theorem canon_no {l : List UInt8} (h : Canon l) {c : UInt8} (hc : isDig c = false) : c ∉ l := fun hm => by
  rw [h.dig c hm] at hc
  cases hc
theorem words_no {r : RuleS} (h1 : 0 ≤ r.low) (h2 : 0 ≤ r.top) : ∀ w ∈ r.words, (32 : UInt8) ∉ w := by
  intro w hw
  unfold RuleS.words at hw
  rcases List.mem_cons.1 hw with rfl | hw
  · split <;> decide
  rcases List.mem_cons.1 hw with rfl | hw
  · split <;> decide
  rcases List.mem_cons.1 hw with rfl | hw
  · unfold protoB
    split
    · decide
    split
    · decide
    · decide
  obtain rfl := List.mem_singleton.1 hw
  intro hm
  rcases List.mem_append.1 hm with hm | hm
  · rcases List.mem_append.1 hm with hm | hm
    · exact canon_no (itoa_canon h1).1 (by decide) hm
    · simp at hm
  · exact canon_no (itoa_canon h2).1 (by decide) hm
theorem line_cut {r : RuleS} (h1 : 0 ≤ r.low) (h2 : 0 ≤ r.top) : cutR 32 r.line = r.words := cutR_join _ (by simp [RuleS.words]) (words_no h1 h2)
theorem nums_cut {x y : List UInt8} (h1 : Canon x) (h2 : Canon y) : cutR 45 (x ++ [45] ++ y) = [x, y] := by
  rw [List.append_assoc, List.singleton_append, cutR_word x y (canon_no h1 (by decide)), cutR_one y (canon_no h2 (by decide))]
theorem numS_itoa {x : List UInt8} (h : 0 ≤ numS x 5) : Lib.itoa (numS x 5) = x := by
  obtain ⟨h1, _, h3⟩ := numS_canon h
  rw [h3]
  exact canon_itoa h1
theorem ruleOfS_some {s a b p n : List UInt8} (hw : cutR 32 s = [a, b, p, n]) {x y : List UInt8} {k : Bool} (hc : Lib.cut n [45] = (x, y, k)) (hp : 0 ≤ protoK p) (hx : 0 ≤ numS x 5) (hy : 0 ≤ numS y 5) :
    ((⟨decide (a = sAllow), decide (b = sOut), protoK p, numS x 5, numS y 5⟩ : RuleS).line = s ↔ ruleOfS s = some ⟨decide (a = sAllow), decide (b = sOut), protoK p, numS x 5, numS y 5⟩) := by
  generalize hr : (⟨decide (a = sAllow), decide (b = sOut), protoK p, numS x 5, numS y 5⟩ : RuleS) = r
  have hwords : r.words = [if decide (a = sAllow) = true then sAllow else sDeny, if decide (b = sOut) = true then sOut else sIn, p, x ++ [45] ++ y] := by
    subst hr
    unfold RuleS.words
    dsimp only
    rw [(protoK_b hp).1, numS_itoa hx, numS_itoa hy]
  have hcx := (numS_canon hx).1
  have hcy := (numS_canon hy).1
  constructor
  · intro hl
    have h1 := line_cut (r := r) (by rw [← hr]; exact hx) (by rw [← hr]; exact hy)
    rw [hl, hw, hwords] at h1
    obtain ⟨g1, h1⟩ := List.cons.inj h1
    obtain ⟨g2, h1⟩ := List.cons.inj h1
    obtain ⟨_, h1⟩ := List.cons.inj h1
    obtain ⟨g4, _⟩ := List.cons.inj h1
    have ga : a = sAllow ∨ a = sDeny := by
      by_cases ha : a = sAllow
      · exact .inl ha
      · rw [decide_eq_false ha, if_neg (by decide)] at g1
        exact .inr g1
    have gb : b = sOut ∨ b = sIn := by
      by_cases hb : b = sOut
      · exact .inl hb
      · rw [decide_eq_false hb, if_neg (by decide)] at g2
        exact .inr g2
    unfold ruleOfS
    rw [hw]
    dsimp only
    rw [if_pos ⟨ga, gb, hp⟩, g4, nums_cut hcx hcy]
    dsimp only
    rw [if_pos ⟨hx, hy⟩, hr]
  · intro h
    unfold ruleOfS at h
    rw [hw] at h
    dsimp only at h
    split at h
    · rename_i hab
      obtain ⟨ha, hb, _⟩ := hab
      split at h
      · rename_i x' y' hn
        have hcut := cut_two hn
        rw [Lib.join_one, hc] at hcut
        obtain ⟨e1, e2⟩ := Prod.mk.inj hcut
        obtain ⟨e2, _⟩ := Prod.mk.inj e2
        have hn2 : n = x ++ [45] ++ y := by
          have := join_cutR 45 n
          rw [hn, join_cc, Lib.join_one, ← e1, ← e2] at this
          rw [← this]
          simp
        have hws : r.words = [a, b, p, n] := by
          rw [hwords, hn2]
          congr 1
          · rcases ha with rfl | rfl <;> decide
          · congr 1
            rcases hb with rfl | rfl <;> decide
        unfold RuleS.line
        rw [hws, ← hw]
        exact join_cutR 32 s
      · cases h
    · cases h
theorem ruleOfS_none {s a b p n : List UInt8} (hw : cutR 32 s = [a, b, p, n]) {x y : List UInt8} {k : Bool} (hc : Lib.cut n [45] = (x, y, k)) (h : protoK p < 0 ∨ numS x 5 < 0 ∨ numS y 5 < 0) : ruleOfS s = none := by
  unfold ruleOfS
  rw [hw]
  dsimp only
  split
  · rename_i hab
    split
    · rename_i x' y' hn
      have hcut := cut_two hn
      rw [Lib.join_one, hc] at hcut
      obtain ⟨e1, e2⟩ := Prod.mk.inj hcut
      obtain ⟨e2, _⟩ := Prod.mk.inj e2
      subst e1 e2
      rw [if_neg (by have := hab.2.2; omega)]
    · rfl
  · rfl
theorem ruleOfS_words {s : List UInt8} (h : (cutR 32 s).length ≠ 4) : ruleOfS s = none := by
  unfold ruleOfS
  split
  · rename_i hw
    rw [hw] at h
    exact absurd rfl h
  · rfl
theorem words4 {s : List UInt8} (h : (cutR 32 s).length = 4) : ∃ a b p n, cutR 32 s = [a, b, p, n] := by
  generalize cutR 32 s = l at h
  match l, h with
  | [a, b, p, n], _ => exact ⟨a, b, p, n, rfl⟩
def rulesOfL : List (List UInt8) → Nat → List RuleS × Option Nat
  | [], _ => ([], none)
  | t :: l, i => match ruleOfS t with
    | some r => (r :: (rulesOfL l (i + 1)).1, (rulesOfL l (i + 1)).2)
    | none => ([], some i)
def trimN (s : List UInt8) : List UInt8 := if s.getLast? = some 10 then s.dropLast else s
def rulesOfS (s : List UInt8) : List RuleS × (Nat × Int) :=
  if s.length > 3000 then ([], (2, -1)) else if s = [] then ([], (0, -1)) else
  match (rulesOfL (cutR 10 (trimN s)) 0).2 with
  | some i => ([], (1, (i : Int)))
  | none => if (faultL (rulesOfL (cutR 10 (trimN s)) 0).1).1 ≠ 0 then ([], faultL (rulesOfL (cutR 10 (trimN s)) 0).1) else ((rulesOfL (cutR 10 (trimN s)) 0).1, (0, -1))
end Go.Proofs.YtgcbcagaibecbaaGreatDoor

namespace Go.Proofs.YtgcbcagaibecbaaGreatDoor
set_option maxRecDepth 20000
open Go Ev
variable [Go.Proofs.YtgcbcagaibecbaaGreatDoor.Gap.Leaps]
end Go.Proofs.YtgcbcagaibecbaaGreatDoor
