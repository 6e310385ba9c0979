
/-
  packet.Number and packet.Value, walked: a number as so many bytes, and back.
-/
import Derived.Test.YteakdmngllfodaaDoorEvN
import Derived.Test.YteakdmngllfodaaDoorErr
namespace Go.Proofs.YteakdmngllfodaaDoor
open Go Ev

/-- The last i of m bytes of a number. -/
def numK (n m i : Nat) : List UInt8 := (List.range m).map fun j => if m ≤ j + i then UInt8.ofNat (n / 256 ^ (m - 1 - j)) else 0
def numB (n m : Nat) : List UInt8 := (List.range m).map fun j => UInt8.ofNat (n / 256 ^ (m - 1 - j))
theorem numK_len (n m i : Nat) : (numK n m i).length = m := by simp [numK]
theorem numB_len (n m : Nat) : (numB n m).length = m := by simp [numB]
theorem numK_zero (n m : Nat) : numK n m 0 = List.replicate m 0 := by
  apply List.ext_getElem?
  intro j
  by_cases h : j < m
  · have : ¬ m ≤ j := by omega
    simp [numK, h, this]
  · simp [numK, h]
theorem numK_full (n m : Nat) : numK n m m = numB n m := by
  unfold numK numB
  apply List.map_congr_left
  intro j _
  rw [if_pos (by omega)]
theorem numK_at {n m i j : Nat} (h : j < m) : (numK n m i)[j]? = some (if m ≤ j + i then UInt8.ofNat (n / 256 ^ (m - 1 - j)) else 0) := by simp [numK, h]
theorem numK_set {n m i : Nat} (h : i < m) : (numK n m i).set (m - 1 - i) (UInt8.ofNat (n / 256 ^ i)) = numK n m (i + 1) := by
  apply List.ext_getElem?
  intro j
  rw [List.getElem?_set]
  by_cases e : m - 1 - i = j
  · subst e
    rw [if_pos rfl, if_pos (by rw [numK_len]; omega), numK_at (by omega), if_pos (by omega), show m - 1 - (m - 1 - i) = i by omega]
  · rw [if_neg e]
    by_cases hj : j < m
    · rw [numK_at hj, numK_at hj]
      by_cases h1 : m ≤ j + i
      · rw [if_pos h1, if_pos (by omega)]
      · rw [if_neg h1, if_neg (by omega)]
    · rw [List.getElem?_eq_none (by rw [numK_len]; omega), List.getElem?_eq_none (by rw [numK_len]; omega)]
theorem byte_of (q : Nat) : ((UInt8.ofNat q).toNat : Int) = (q : Int) % 256 := by
  rw [UInt8.toNat_ofNat']
  omega

theorem own_cells {α : Type} {w : World} {sz n c g : Nat} {e : TypeId} {enc : α → List Value} (C : Codec sz enc) {xs : List α} (h : (ownL e sz enc (.slice (some ⟨g, 0, none⟩) n c) xs).holds w) : CellsAt w g 0 (xs.flatMap enc) := by
  obtain ⟨_, ⟨h1, _⟩ | ⟨g', cap, cur, h1, h2, h3, h4, h5, h6, h7⟩⟩ := h
  · cases h1
  · cases h1
    intro j v hj
    have hlt := (List.getElem?_eq_some_iff.1 hj).1
    rw [flat_len C] at hlt
    rw [← h7, List.getElem?_take_of_lt (by omega)] at hj
    simp only [World.cell?, h3, Nat.zero_add]
    simpa using hj
theorem rep_flat : ∀ m : Nat, List.replicate m (Value.int .u8 0) = (List.replicate m (0 : UInt8)).flatMap encU
  | 0 => rfl
  | m + 1 => by rw [List.replicate_succ, List.replicate_succ, List.flatMap_cons, ← rep_flat m]; rfl
theorem shr_byte (n i : Nat) : IntKind.u8.wrap ((n : Int) / 2 ^ (8 * i)) = ((UInt8.ofNat (n / 256 ^ i)).toNat : Int) := by
  rw [IntKind.wrap_u8', byte_of, Int.pow_mul]
  have : ((2 : Int) ^ 8) ^ i = ((256 ^ i : Nat) : Int) := by simp
  rw [this, ← Int.natCast_ediv]
theorem number_ok (n m : Nat) (hm : m ≤ 7) (_hn : n < 9223372036854775808) (w : World) :
    CallC Tryd.prog 90 #[.int .i64 (n : Int), .int .i64 (m : Int)] w fun v w' => v = .string (bs (numB n m)) ∧ Ext No w w' := by
  refine fn_intro tabOk Tryd.func90 (by kernel_rfl) rfl Tryd.ntmps90 (Nat.le_of_ble_eq_true rfl) ?_
  have hS := St.start w No
  (conv => whnf)
  refine hS.mkSlice (n := m) Tryd.underlying87 (sz := 1) (bytes := 1) (by kernel_rfl) (z := .int .u8 0) (by kernel_rfl) (by omega) (by omega) (by unfold maxLen; omega) (enc := encU) (xs := numK n m 0) (numK_len _ _ _) (by rw [numK_zero, show (Value.int .u8 0).cells = #[.int .u8 0] from rfl, made_rep, Nat.mul_one]; exact rep_flat m) (fun g w' hg hS => ?_)
  (conv => whnf)
  refine loopR tabOk (fun σ w' q => ∃ i : Nat, σ = [(10, .int .i64 i), (9, .int .i64 m), (5, .slice (some ⟨g, 0, none⟩) m m), (1, .int .i64 m), (0, .int .i64 n)] ∧ q = m - i ∧ i ≤ m ∧ St w No w' [ownL 5 1 encU (.slice (some ⟨g, 0, none⟩) m m) (numK n m i)])
    (σ' := [(10, .int .i64 ((0 : Nat) : Int)), (9, .int .i64 m), (5, .slice (some ⟨g, 0, none⟩) m m), (1, .int .i64 m), (0, .int .i64 n)]) (n := m) ⟨rfl, rfl, rfl, rfl, rfl, trivial⟩ ⟨0, rfl, rfl, Nat.zero_le _, hS⟩ ?_
  clear hS
  rintro _ w1 q ⟨i, rfl, rfl, hi, hS⟩
  (conv => whnf)
  refine brD (fun h3 => ?_) (fun h3 => ?_)
  · have hi2 : i < m := by omega
    repeat' ((conv => whnf); first | refine RetC.mk ?_ | refine NzC.mk (by decide) ?_ | refine RngC.mk (by omega) (by omega) ?_ | refine IdxC.mk (by omega) (by omega) ?_ | refine RngC.mk (by omega) (by omega) ?_ | refine brD (fun _ => ?_) (fun _ => ?_) | refine brND (fun _ => ?_) (fun _ => ?_) | refine brN (fun _ => ?_) (fun _ => ?_) | refine brI (fun _ => ?_) (fun _ => ?_))
    refine shrC (n := 8 * i) (by omega) (by show 8 * i ≤ 64; omega) ?_
    (conv => whnf)
    refine convI (kd := .u8) (by kernel_rfl) Tryd.underlying5 (shr_byte n i) ?_
    (conv => whnf)
    refine IdxC.mk (by omega) (by omega) ?_
    (conv => whnf)
    refine hS.setL codU 0 (k := m - 1 - i) (x := UInt8.ofNat (n / 256 ^ i)) rfl (numK_at (by omega)) (by omega) rfl (fun w' _ hS => ?_)
    rw [numK_set hi2] at hS
    (conv => whnf)
    refine RngC.mk (by omega) (by omega) ?_
    (conv => whnf)
    refine LoopE.mk ⟨_, [(10, .int .i64 ((i + 1 : Nat) : Int)), (9, _), (5, _), (1, _), (0, _)], ?_, ⟨rfl, rfl, rfl, rfl, rfl, trivial⟩, ⟨i + 1, rfl, rfl, by omega, hS⟩⟩
    omega
  · obtain rfl : i = m := by omega
    rw [numK_full] at hS
    obtain ⟨_, _, h0⟩ : ∃ b o, CellsAt w1 g 0 ((numB n i).flatMap encU) := ⟨0, 0, own_cells codU (hS.get 0 rfl)⟩
    (conv => whnf)
    refine strC Tryd.underlying87 Tryd.underlying5 Tryd.underlying9 h0 (numB_len _ _) ?_
    repeat' ((conv => whnf); first | refine RetC.mk ?_ | refine NzC.mk (by decide) ?_ | refine RngC.mk (by omega) (by omega) ?_ | refine IdxC.mk (by omega) (by omega) ?_ | refine brD (fun _ => ?_) (fun _ => ?_) | refine brND (fun _ => ?_) (fun _ => ?_) | refine brN (fun _ => ?_) (fun _ => ?_) | refine brI (fun _ => ?_) (fun _ => ?_))
    exact ⟨rfl, hS.ext⟩

/-! ### Back -/
def valB (l : List UInt8) : Nat := l.foldl (fun n b => n * 256 + b.toNat) 0
theorem valB_step {l : List UInt8} {k : Nat} {x : UInt8} (h : l[k]? = some x) : valB (l.take (k + 1)) = valB (l.take k) * 256 + x.toNat := by
  unfold valB
  rw [List.take_add_one, h, List.foldl_append]
  rfl
theorem valB_app (l : List UInt8) (x : UInt8) : valB (l ++ [x]) = valB l * 256 + x.toNat := by
  unfold valB
  rw [List.foldl_append]
  rfl
theorem foldB_lt : ∀ (l : List UInt8) (n c : Nat), n < 256 ^ c → l.foldl (fun n b => n * 256 + b.toNat) n < 256 ^ (c + l.length)
  | [], n, c, h => by simpa using h
  | x :: l, n, c, h => by
    have hx := x.toNat_lt
    have := foldB_lt l (n * 256 + x.toNat) (c + 1) (by rw [Nat.pow_succ]; omega)
    rw [List.foldl_cons, List.length_cons, show c + (l.length + 1) = c + 1 + l.length by omega]
    exact this
theorem valB_lt (l : List UInt8) : valB l < 256 ^ l.length := by
  have := foldB_lt l 0 0 (by simp)
  rwa [Nat.zero_add] at this
theorem or_add {a b : Nat} (hb : b < 256) : a * 256 ||| b = a * 256 + b := by
  have := Nat.shiftLeft_add_eq_or_of_lt (i := 8) (b := b) (by omega) a
  rw [Nat.shiftLeft_eq] at this
  exact this.symm
theorem value_ok (l : List UInt8) (hl : l.length ≤ 7) (w : World) :
    CallC Tryd.prog 78 #[.string (bs l)] w fun v w' => v = .int .i64 (valB l : Nat) ∧ Ext No w w' := by
  refine fn_intro tabOk Tryd.func78 (by kernel_rfl) rfl Tryd.ntmps78 (Nat.le_of_ble_eq_true rfl) ?_
  have hS := St.start w No
  (conv => whnf)
  rw [bs_size]
  refine loopR tabOk (fun σ w' q => ∃ i : Nat, σ = [(7, .int .i64 i), (6, .int .i64 (l.length : Nat)), (3, .int .i64 (valB (l.take i) : Nat)), (0, .string (bs l))] ∧ q = l.length - i ∧ i ≤ l.length ∧ St w No w' [])
    (σ' := [(7, .int .i64 ((0 : Nat) : Int)), (6, .int .i64 (l.length : Nat)), (3, .int .i64 ((0 : Nat) : Int)), (0, .string (bs l))]) (n := l.length) ⟨rfl, rfl, rfl, rfl, trivial⟩ ⟨0, rfl, rfl, Nat.zero_le _, hS⟩ ?_
  clear hS
  rintro _ w1 q ⟨i, rfl, rfl, hi, hS⟩
  (conv => whnf)
  refine brD (fun h3 => ?_) (fun h3 => ?_)
  · obtain ⟨x, hx⟩ : ∃ x, l[i]? = some x := ⟨_, List.getElem?_eq_getElem (by omega)⟩
    have hst := valB_step hx
    have hlt := valB_lt (l.take i)
    have h7 : 256 ^ (l.take i).length ≤ 256 ^ 6 := Nat.pow_le_pow_right (by omega) (by rw [List.length_take]; omega)
    have hx8 := x.toNat_lt
    generalize valB (l.take i) = v at hst hlt
    have hv : v < 281474976710656 := Nat.lt_of_lt_of_le hlt h7
    (conv => whnf)
    refine shlC (n := 8) (m := ((v * 256 : Nat) : Int)) rfl (by decide) (by rw [IntKind.wrap_i64]; omega) ?_
    (conv => whnf)
    refine idxS Tryd.underlying9 rfl hx ?_
    (conv => whnf)
    refine convI (kd := .i64) (m := (x.toNat : Int)) (by kernel_rfl) Tryd.underlying3 (by rw [IntKind.wrap_i64]; omega) ?_
    (conv => whnf)
    refine orC64 (a := v * 256) (by omega) (by omega) ?_
    rw [or_add (by omega), ← hst]
    (conv => whnf)
    refine RngC.mk (by omega) (by omega) ?_
    (conv => whnf)
    refine LoopE.mk ⟨_, [(7, .int .i64 ((i + 1 : Nat) : Int)), (6, _), (3, .int .i64 (valB (l.take (i + 1)) : Nat)), (0, _)], ?_, ⟨rfl, rfl, rfl, rfl, trivial⟩, ⟨i + 1, rfl, rfl, by omega, hS⟩⟩
    omega
  · obtain rfl : i = l.length := by omega
    rw [List.take_length]
    repeat' ((conv => whnf); first | refine RetC.mk ?_ | refine NzC.mk (by decide) ?_ | refine RngC.mk (by omega) (by omega) ?_ | refine IdxC.mk (by omega) (by omega) ?_ | refine brD (fun _ => ?_) (fun _ => ?_) | refine brND (fun _ => ?_) (fun _ => ?_) | refine brN (fun _ => ?_) (fun _ => ?_) | refine brI (fun _ => ?_) (fun _ => ?_))
    exact ⟨rfl, hS.ext⟩
/-- There and back. -/
theorem numB_succ (n m : Nat) : numB n (m + 1) = numB (n / 256) m ++ [UInt8.ofNat n] := by
  unfold numB
  rw [List.range_succ, List.map_append]
  congr 1
  · apply List.map_congr_left
    intro j hj
    have hj := List.mem_range.1 hj
    rw [show m + 1 - 1 - j = (m - 1 - j) + 1 by omega, Nat.pow_succ, Nat.mul_comm, ← Nat.div_div_eq_div_mul]
  · simp
theorem valB_num : ∀ (m n : Nat), valB (numB n m) = n % 256 ^ m
  | 0, n => by simp [numB, valB, Nat.mod_one]
  | m + 1, n => by
    have h : (256 : Nat) ^ (m + 1) = 256 * 256 ^ m := Nat.pow_succ'
    rw [numB_succ, valB_app, valB_num m, UInt8.toNat_ofNat', h, Nat.mod_mul]
    omega
end Go.Proofs.YteakdmngllfodaaDoor
