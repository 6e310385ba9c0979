
/-
  Package cell, walked: the bytes that a cell writes to.
-/
import Derived.Test.YteakdmngllfodaaDoorSum
namespace Go.Proofs.YteakdmngllfodaaDoor
open Go Ev

structure BytS where
  data : List UInt8
  off : Bool
  left : Int
def encBy (B : BytS) : List Value := B.data.flatMap encU ++ [.bool B.off, .int .i64 B.left]
theorem by_len {B : BytS} (h : B.data.length = 64) : (encBy B).length = 66 := by
  simp only [encBy, List.length_append, flat_len codU, h, List.length_cons, List.length_nil]
theorem by_off {B : BytS} (h : B.data.length = 64) : (encBy B)[64]? = some (.bool B.off) := by
  unfold encBy
  rw [List.getElem?_append_right (by rw [flat_len codU]; omega), flat_len codU, h]
  rfl
theorem by_left {B : BytS} (h : B.data.length = 64) : (encBy B)[65]? = some (.int .i64 B.left) := by
  unfold encBy
  rw [List.getElem?_append_right (by rw [flat_len codU]; omega), flat_len codU, h]
  rfl
theorem by_at {B : BytS} {k : Nat} {x : UInt8} (h : B.data[k]? = some x) : (encBy B)[k]? = some (.int .u8 (x.toNat : Int)) := by
  have := flat_get codU (j := 0) h rfl
  have lt := (List.getElem?_eq_some_iff.1 h).1
  unfold encBy
  rw [List.getElem?_append_left (by rw [flat_len codU]; omega)]
  simpa using this
theorem by_set {B : BytS} {k : Nat} {x y : UInt8} (h : B.data[k]? = some y) : over (encBy B) k [.int .u8 (x.toNat : Int)] = encBy ⟨B.data.set k x, B.off, B.left⟩ := by
  have lt := (List.getElem?_eq_some_iff.1 h).1
  unfold encBy
  have := over_mid [] (B.data.flatMap encU) [.bool B.off, .int .i64 B.left] [.int .u8 (x.toNat : Int)] k (by rw [flat_len codU]; simp; omega)
  simp only [List.nil_append, List.length_nil, Nat.zero_add] at this
  have h2 := flat_over codU (j := 0) (y := x) (vs := [.int .u8 (x.toNat : Int)]) h (by simp) rfl
  rw [Nat.mul_one, Nat.add_zero] at h2
  rw [this, h2]
theorem by_setOff {B : BytS} {x : Bool} (h : B.data.length = 64) : over (encBy B) 64 [.bool x] = encBy ⟨B.data, x, B.left⟩ := by
  unfold encBy
  have := over_mid (B.data.flatMap encU) [.bool B.off, .int .i64 B.left] [] [.bool x] 0 (by simp)
  simp only [flat_len codU, h, List.append_nil, Nat.mul_one, Nat.add_zero] at this
  rw [this]
  rfl
theorem by_setLeft {B : BytS} {x : Int} (h : B.data.length = 64) : over (encBy B) 65 [.int .i64 x] = encBy ⟨B.data, B.off, x⟩ := by
  unfold encBy
  have := over_mid (B.data.flatMap encU) [.bool B.off, .int .i64 B.left] [] [.int .i64 x] 1 (by simp)
  simp only [flat_len codU, h, List.append_nil, Nat.mul_one] at this
  rw [this]
  rfl

/-- What is written while there is power. -/
def BytS.write (B : BytS) (p : Nat) : List UInt8 → Bool × BytS
  | [] => (true, B)
  | x :: r => if B.off = true ∨ B.left = 0 then (false, ⟨B.data, true, B.left⟩) else BytS.write ⟨B.data.set p x, B.off, if B.left - 1 > -1 then B.left - 1 else -1⟩ (p + 1) r
theorem write_cons (B : BytS) (p : Nat) (x : UInt8) (r : List UInt8) : B.write p (x :: r) = if B.off = true ∨ B.left = 0 then (false, ⟨B.data, true, B.left⟩) else BytS.write ⟨B.data.set p x, B.off, if B.left - 1 > -1 then B.left - 1 else -1⟩ (p + 1) r := rfl
theorem write_nil (B : BytS) (p : Nat) : B.write p [] = (true, B) := rfl
def by0 : BytS := ⟨List.replicate 64 0, false, -1⟩

section
variable {w : World} {b : Nat} {B : BytS}
theorem newBytes_ok (w : World) : CallC Tryd.prog 44 #[] w fun v w' => ∃ b, v = .pointer (some ⟨b, 0, none⟩) ∧ w.heap.size ≤ b ∧ Ext No w w' ∧ Blk w' b 124 (encBy by0) := by
  have hb : ∀ w, (Instr.build 124 #[(2, .int .i64 (-1))]).run Tryd.prog w = .ok (.agg (encBy by0).toArray) w := fun w => by kernel_rfl
  have hb2 : ∀ k : Value → Prop, k (.agg (encBy by0).toArray) → PureC Tryd.prog (Instr.build 124 #[(2, .int .i64 (-1))]) k := fun k hk => PureC.of hb hk
  have ho : cellsL (.agg (encBy by0).toArray) = encBy by0 := by simp [cellsL]
  generalize Value.agg (encBy by0).toArray = VV at hb2 ho
  refine fn_intro tabOk Tryd.func44 (by kernel_rfl) rfl Tryd.ntmps44 (Nat.le_of_ble_eq_true rfl) ?_
  have hS := St.start w No
  repeat' ((conv => whnf); first | refine RetC.mk ?_ | refine hb2 _ ?_)
  refine hS.new (fun b w' hb hS => ?_)
  rw [ho] at hS
  repeat' ((conv => whnf); first | refine RetC.mk ?_ | refine NzC.mk (by decide) ?_ | refine RngC.mk (by omega) (by omega) ?_ | refine IdxC.mk (by omega) (by omega) ?_ | refine brD (fun _ => ?_) (fun _ => ?_) | refine brND (fun _ => ?_) (fun _ => ?_) | refine brN (fun _ => ?_) (fun _ => ?_) | refine brI (fun _ => ?_) (fun _ => ?_))
  exact ⟨b, rfl, hb, hS.ext, hS.blk 0 rfl⟩
theorem bon_ok (hb : Blk w b 124 (encBy B)) (hl : B.data.length = 64) : CallC Tryd.prog 49 #[.pointer (some ⟨b, 0, none⟩)] w fun _ w' => Ext (· = b) w w' ∧ Blk w' b 124 (encBy ⟨B.data, false, -1⟩) := by
  refine fn_intro tabOk Tryd.func49 (by kernel_rfl) rfl Tryd.ntmps49 (Nat.le_of_ble_eq_true rfl) ?_
  have hS := (St.start w (· = b)).add (blk_local b _ _) hb (by simp [blk]; exact hb.lt) (by simp)
  (conv => whnf)
  refine hS.st 0 rfl (by rw [by_len hl]; simp [cellsL]) rfl (fun w' hS => ?_)
  replace hS : St w (· = b) w' [blk b 124 (encBy ⟨B.data, false, B.left⟩)] := by rw [← by_setOff hl]; exact hS
  (conv => whnf)
  refine hS.st 0 rfl (by rw [by_len (by exact hl)]; simp [cellsL]) rfl (fun w' hS => ?_)
  replace hS : St w (· = b) w' [blk b 124 (encBy ⟨B.data, false, -1⟩)] := by rw [← by_setLeft (B := ⟨B.data, false, B.left⟩) hl]; exact hS
  repeat' ((conv => whnf); first | refine RetC.mk ?_ | refine NzC.mk (by decide) ?_ | refine RngC.mk (by omega) (by omega) ?_ | refine IdxC.mk (by omega) (by omega) ?_ | refine brD (fun _ => ?_) (fun _ => ?_) | refine brND (fun _ => ?_) (fun _ => ?_) | refine brN (fun _ => ?_) (fun _ => ?_) | refine brI (fun _ => ?_) (fun _ => ?_))
  exact ⟨hS.ext, hS.blk 0 rfl⟩
theorem boff_ok (hb : Blk w b 124 (encBy B)) (hl : B.data.length = 64) : CallC Tryd.prog 56 #[.pointer (some ⟨b, 0, none⟩)] w fun _ w' => Ext (· = b) w w' ∧ Blk w' b 124 (encBy ⟨B.data, true, B.left⟩) := by
  refine fn_intro tabOk Tryd.func56 (by kernel_rfl) rfl Tryd.ntmps56 (Nat.le_of_ble_eq_true rfl) ?_
  have hS := (St.start w (· = b)).add (blk_local b _ _) hb (by simp [blk]; exact hb.lt) (by simp)
  (conv => whnf)
  refine hS.st 0 rfl (by rw [by_len hl]; simp [cellsL]) rfl (fun w' hS => ?_)
  replace hS : St w (· = b) w' [blk b 124 (encBy ⟨B.data, true, B.left⟩)] := by rw [← by_setOff hl]; exact hS
  repeat' ((conv => whnf); first | refine RetC.mk ?_ | refine NzC.mk (by decide) ?_ | refine RngC.mk (by omega) (by omega) ?_ | refine IdxC.mk (by omega) (by omega) ?_ | refine brD (fun _ => ?_) (fun _ => ?_) | refine brND (fun _ => ?_) (fun _ => ?_) | refine brN (fun _ => ?_) (fun _ => ?_) | refine brI (fun _ => ?_) (fun _ => ?_))
  exact ⟨hS.ext, hS.blk 0 rfl⟩
theorem bpower_ok (hb : Blk w b 124 (encBy B)) (hl : B.data.length = 64) : CallC Tryd.prog 48 #[.pointer (some ⟨b, 0, none⟩)] w fun v w' => v = .bool (!B.off) ∧ Ext No w w' := by
  refine fn_intro tabOk Tryd.func48 (by kernel_rfl) rfl Tryd.ntmps48 (Nat.le_of_ble_eq_true rfl) ?_
  have hS := St.start w No
  (conv => whnf)
  refine ldc (v := .bool B.off) (by rw [hb.cell]; exact by_off hl) ?_
  repeat' ((conv => whnf); first | refine RetC.mk ?_ | refine NzC.mk (by decide) ?_ | refine RngC.mk (by omega) (by omega) ?_ | refine IdxC.mk (by omega) (by omega) ?_ | refine brD (fun _ => ?_) (fun _ => ?_) | refine brND (fun _ => ?_) (fun _ => ?_) | refine brN (fun _ => ?_) (fun _ => ?_) | refine brI (fun _ => ?_) (fun _ => ?_))
  exact ⟨rfl, hS.ext⟩
theorem ball_ok (hb : Blk w b 124 (encBy B)) (hl : B.data.length = 64) : CallC Tryd.prog 53 #[.pointer (some ⟨b, 0, none⟩)] w fun v w' => v = .string (bs B.data) ∧ Ext No w w' := by
  have h0 : CellsAt w b 0 (B.data.flatMap encU) := fun j v hj => by
    have lt := (List.getElem?_eq_some_iff.1 hj).1
    rw [hb.cell]
    unfold encBy
    rw [Nat.zero_add, List.getElem?_append_left lt]
    exact hj
  refine fn_intro tabOk Tryd.func53 (by kernel_rfl) rfl Tryd.ntmps53 (Nat.le_of_ble_eq_true rfl) ?_
  have hS := St.start w No
  (conv => whnf)
  refine strC Tryd.underlying87 Tryd.underlying5 Tryd.underlying9 h0 hl ?_
  repeat' ((conv => whnf); first | refine RetC.mk ?_ | refine NzC.mk (by decide) ?_ | refine RngC.mk (by omega) (by omega) ?_ | refine IdxC.mk (by omega) (by omega) ?_ | refine brD (fun _ => ?_) (fun _ => ?_) | refine brND (fun _ => ?_) (fun _ => ?_) | refine brN (fun _ => ?_) (fun _ => ?_) | refine brI (fun _ => ?_) (fun _ => ?_))
  exact ⟨rfl, hS.ext⟩
theorem bcut_ok {E : Nat → Addr} {n : Nat} (k : Int) (hb : Blk w b 124 (encBy B)) (hl : B.data.length = 64) (hE : Errs w E n [2, 7]) (hq : n ≤ b) : CallC Tryd.prog 46 #[.pointer (some ⟨b, 0, none⟩), .int .i64 k] w fun v w' => v = errV E (if k < 0 then 2 else if B.off = true then 7 else 0) ∧ Ext (· = b) w w' ∧ Blk w' b 124 (encBy (if k < 0 ∨ B.off = true then B else ⟨B.data, B.off, k⟩)) := by
  refine fn_intro tabOk Tryd.func46 (by kernel_rfl) rfl Tryd.ntmps46 (Nat.le_of_ble_eq_true rfl) ?_
  have hS := (St.start w (· = b)).add (blk_local b _ _) hb (by simp [blk]; exact hb.lt) (by simp)
  (conv => whnf)
  refine brD (fun h1 => ?_) (fun h1 => ?_)
  · repeat' ((conv => whnf); first | refine RetC.mk ?_ | refine NzC.mk (by decide) ?_ | refine RngC.mk (by omega) (by omega) ?_ | refine IdxC.mk (by omega) (by omega) ?_ | refine hS.ldr (hE.at_ 2 rfl) (hE.ne 2 rfl hq) ?_ | refine hS.ldrF (hE.at_ 2 rfl) (hE.ne 2 rfl hq) id ?_ | refine brD (fun _ => ?_) (fun _ => ?_) | refine brND (fun _ => ?_) (fun _ => ?_) | refine brN (fun _ => ?_) (fun _ => ?_) | refine brI (fun _ => ?_) (fun _ => ?_))
    rw [if_pos h1, if_pos (.inl h1)]
    exact ⟨rfl, hS.ext, hS.blk 0 rfl⟩
  (conv => whnf)
  refine hS.ld 0 rfl (by_off hl) ?_
  rw [if_neg h1]
  cases ho : B.off
  · rw [if_neg (by simp), if_neg (by simp [h1])]
    (conv => whnf)
    refine hS.st 0 rfl (by rw [by_len hl]; simp [cellsL]) rfl (fun w' hS => ?_)
    replace hS : St w (· = b) w' [blk b 124 (encBy ⟨B.data, B.off, k⟩)] := by rw [← by_setLeft hl]; exact hS
    rw [ho] at hS
    repeat' ((conv => whnf); first | refine RetC.mk ?_ | refine NzC.mk (by decide) ?_ | refine RngC.mk (by omega) (by omega) ?_ | refine IdxC.mk (by omega) (by omega) ?_ | refine brD (fun _ => ?_) (fun _ => ?_) | refine brND (fun _ => ?_) (fun _ => ?_) | refine brN (fun _ => ?_) (fun _ => ?_) | refine brI (fun _ => ?_) (fun _ => ?_))
    exact ⟨rfl, hS.ext, hS.blk 0 rfl⟩
  · rw [if_pos rfl, if_pos (.inr rfl)]
    repeat' ((conv => whnf); first | refine RetC.mk ?_ | refine NzC.mk (by decide) ?_ | refine RngC.mk (by omega) (by omega) ?_ | refine IdxC.mk (by omega) (by omega) ?_ | refine hS.ldr (hE.at_ 7 rfl) (hE.ne 7 rfl hq) ?_ | refine hS.ldrF (hE.at_ 7 rfl) (hE.ne 7 rfl hq) id ?_ | refine brD (fun _ => ?_) (fun _ => ?_) | refine brND (fun _ => ?_) (fun _ => ?_) | refine brN (fun _ => ?_) (fun _ => ?_) | refine brI (fun _ => ?_) (fun _ => ?_))
    exact ⟨rfl, hS.ext, hS.blk 0 rfl⟩
theorem drop_at {α : Type} {s : List α} {i : Nat} {x : α} (h : s[i]? = some x) : s.drop i = x :: s.drop (i + 1) := by
  obtain ⟨lt, e⟩ := List.getElem?_eq_some_iff.1 h
  rw [List.drop_eq_getElem_cons lt, e]
theorem bwrite_ok {E : Nat → Addr} {n : Nat} (p : Nat) (s : List UInt8) (hp : p + s.length ≤ 64) (hb : Blk w b 124 (encBy B)) (hl : B.data.length = 64) (hf : -1 ≤ B.left ∧ B.left ≤ 9223372036854775807) (hE : Errs w E n [7]) (hq : n ≤ b) :
    CallC Tryd.prog 92 #[.pointer (some ⟨b, 0, none⟩), .int .i64 (p : Int), .string (bs s)] w fun v w' => v = errV E (if (B.write p s).1 = true then 0 else 7) ∧ Ext (· = b) w w' ∧ Blk w' b 124 (encBy (B.write p s).2) := by
  refine fn_intro tabOk Tryd.func92 (by kernel_rfl) rfl Tryd.ntmps92 (Nat.le_of_ble_eq_true rfl) ?_
  have hS := (St.start w (· = b)).add (blk_local b _ _) hb (by simp [blk]; exact hb.lt) (by simp)
  (conv => whnf)
  rw [bs_size]
  refine loopR tabOk (fun σ w' q => ∃ (i : Nat) (C : BytS), σ = [(10, .int .i64 i), (9, .int .i64 (s.length : Nat)), (2, .string (bs s)), (1, .int .i64 (p : Int)), (0, .pointer (some ⟨b, 0, none⟩))] ∧ q = s.length - i ∧ i ≤ s.length ∧ C.data.length = 64 ∧ (-1 ≤ C.left ∧ C.left ≤ 9223372036854775807) ∧ B.write p s = C.write (p + i) (s.drop i) ∧ St w (· = b) w' [blk b 124 (encBy C)])
    (σ' := [(10, .int .i64 ((0 : Nat) : Int)), (9, .int .i64 (s.length : Nat)), (2, .string (bs s)), (1, .int .i64 (p : Int)), (0, .pointer (some ⟨b, 0, none⟩))]) (n := s.length) ⟨rfl, rfl, rfl, rfl, rfl, trivial⟩ ⟨0, B, rfl, rfl, Nat.zero_le _, hl, hf, rfl, hS⟩ ?_
  clear hS
  rintro _ w1 q ⟨i, C, rfl, rfl, hi, hcl, hcf, hw, hS⟩
  (conv => whnf)
  refine brD (fun h3 => ?_) (fun h3 => ?_)
  · obtain ⟨x, hx⟩ : ∃ x, s[i]? = some x := ⟨_, List.getElem?_eq_getElem (by omega)⟩
    obtain ⟨y, hy⟩ : ∃ y, C.data[p + i]? = some y := ⟨_, List.getElem?_eq_getElem (by omega)⟩
    rw [drop_at hx, write_cons] at hw
    (conv => whnf)
    refine hS.ld 0 rfl (by_off hcl) ?_
    have fail : C.off = true ∨ C.left = 0 → ∀ w', St w (· = b) w' [blk b 124 (encBy ⟨C.data, true, C.left⟩)] → (errV E 7 = errV E (if (B.write p s).1 = true then 0 else 7) ∧ Ext (· = b) w w' ∧ Blk w' b 124 (encBy (B.write p s).2)) := by
      intro h w' hS
      rw [if_pos h] at hw
      rw [hw]
      exact ⟨rfl, hS.ext, hS.blk 0 rfl⟩
    cases hco : C.off
    · (conv => whnf)
      refine hS.ld 0 rfl (by_left hcl) ?_
      (conv => whnf)
      refine brD (fun h4 => ?_) (fun h4 => ?_)
      · (conv => whnf)
        refine hS.st 0 rfl (by rw [by_len hcl]; simp [cellsL]) rfl (fun w' hS => ?_)
        replace hS : St w (· = b) w' [blk b 124 (encBy ⟨C.data, true, C.left⟩)] := by rw [← by_setOff hcl]; exact hS
        repeat' ((conv => whnf); first | refine RetC.mk ?_ | refine NzC.mk (by decide) ?_ | refine RngC.mk (by omega) (by omega) ?_ | refine IdxC.mk (by omega) (by omega) ?_ | refine hS.ldr (hE.at_ 7 rfl) (hE.ne 7 rfl hq) ?_ | refine hS.ldrF (hE.at_ 7 rfl) (hE.ne 7 rfl hq) id ?_ | refine brD (fun _ => ?_) (fun _ => ?_) | refine brND (fun _ => ?_) (fun _ => ?_) | refine brN (fun _ => ?_) (fun _ => ?_) | refine brI (fun _ => ?_) (fun _ => ?_))
        exact fail (.inr h4) _ hS
      · rw [if_neg (by simp [hco, h4])] at hw
        (conv => whnf)
        (refine drawS tabOk mixed [] ((· = b)) [0, 1, 2, 3, 4, 5, 6, 7, 8, 9, 10] (by kernel_rfl) ?_; rintro w1 rfl; replace hS := hS.drew)
        (conv => whnf)
        refine RngC.mk (by omega) (by omega) ?_
        (conv => whnf)
        refine idxS Tryd.underlying9 rfl hx ?_
        (conv => whnf)
        refine IdxC.mk (by omega) (by omega) ?_
        (conv => whnf)
        refine hS.stX 0 rfl (by rw [by_len hcl]; simp [cellsL]; omega) rfl (fun w' hx' hS => ?_)
        refine KeepC.mk hx' ?_
        have ho : over (encBy C) (0 + 0 + ((p : Int) + (i : Int)).toNat * 1) (cellsL (.int .u8 (x.toNat : Int))) = encBy ⟨C.data.set (p + i) x, C.off, C.left⟩ := by
          rw [show 0 + 0 + ((p : Int) + (i : Int)).toNat * 1 = p + i by omega]
          exact by_set hy
        have hcl2 : (C.data.set (p + i) x).length = 64 := by rw [List.length_set]; exact hcl
        replace hS : St w (· = b) w' [blk b 124 (encBy ⟨C.data.set (p + i) x, C.off, C.left⟩)] := by rw [← ho]; exact hS
        (conv => whnf)
        refine hS.ld 0 rfl (by_left (by exact hcl2)) ?_
        (conv => whnf)
        refine RngC.mk (by dsimp only; omega) (by dsimp only; omega) ?_
        (conv => whnf)
        refine hS.st 0 rfl (by rw [by_len (by exact hcl2)]; simp [cellsL]) rfl (fun w' hS => ?_)
        replace hS : St w (· = b) w' [blk b 124 (encBy ⟨C.data.set (p + i) x, C.off, if C.left - 1 > -1 then C.left - 1 else -1⟩)] := by
          rw [← by_setLeft (B := ⟨C.data.set (p + i) x, C.off, C.left⟩) hcl2]
          exact hS
        (conv => whnf)
        refine RngC.mk (by omega) (by omega) ?_
        (conv => whnf)
        refine LoopE.mk ⟨_, [(10, .int .i64 ((i + 1 : Nat) : Int)), (9, _), (2, _), (1, _), (0, _)], ?_, ⟨rfl, rfl, rfl, rfl, rfl, trivial⟩, ⟨i + 1, ⟨C.data.set (p + i) x, C.off, if C.left - 1 > -1 then C.left - 1 else -1⟩, rfl, rfl, by omega, hcl2, by dsimp only; split <;> omega, hw, hS⟩⟩
        omega
    · (conv => whnf)
      refine hS.st 0 rfl (by rw [by_len hcl]; simp [cellsL]) rfl (fun w' hS => ?_)
      replace hS : St w (· = b) w' [blk b 124 (encBy ⟨C.data, true, C.left⟩)] := by rw [← by_setOff hcl]; exact hS
      repeat' ((conv => whnf); first | refine RetC.mk ?_ | refine NzC.mk (by decide) ?_ | refine RngC.mk (by omega) (by omega) ?_ | refine IdxC.mk (by omega) (by omega) ?_ | refine hS.ldr (hE.at_ 7 rfl) (hE.ne 7 rfl hq) ?_ | refine hS.ldrF (hE.at_ 7 rfl) (hE.ne 7 rfl hq) id ?_ | refine brD (fun _ => ?_) (fun _ => ?_) | refine brND (fun _ => ?_) (fun _ => ?_) | refine brN (fun _ => ?_) (fun _ => ?_) | refine brI (fun _ => ?_) (fun _ => ?_))
      exact fail (.inl hco) _ hS
  · obtain rfl : i = s.length := by omega
    rw [List.drop_length, write_nil] at hw
    rw [hw]
    repeat' ((conv => whnf); first | refine RetC.mk ?_ | refine NzC.mk (by decide) ?_ | refine RngC.mk (by omega) (by omega) ?_ | refine IdxC.mk (by omega) (by omega) ?_ | refine brD (fun _ => ?_) (fun _ => ?_) | refine brND (fun _ => ?_) (fun _ => ?_) | refine brN (fun _ => ?_) (fun _ => ?_) | refine brI (fun _ => ?_) (fun _ => ?_))
    exact ⟨rfl, hS.ext, hS.blk 0 rfl⟩
end
end Go.Proofs.YteakdmngllfodaaDoor
