/-
  Texts of this claim, joined: RefCell, RefNode, RefRole, RefNodeT, RefNodeN, NodeL, LawW, PlayAgain.
-/
import Derived.Test.YtoaghhcjlfiflaaGreatDoorPlayAgainI
import Derived.Lib.BufferWrite

/-
  The reference's cell is written, and a text is laid into cell.Bytes, walked: both hands stand alike behind it.
-/
namespace Go.Proofs.YtoaghhcjlfiflaaGreatDoor
open Go Ev

theorem alike_write {R : RBy} {B : BytS} {p : Nat} {s : List UInt8} (h : Alike R B) (hp : p + s.length ≤ B.data.length) (hs : s ≠ []) : (R.write p s).1 = (B.write p s).1 ∧ Alike (R.write p s).2 (B.write p s).2 := by
  obtain ⟨rd, ro, rl, rb⟩ := R
  obtain ⟨bd, bo, bl⟩ := B
  obtain ⟨h1, h2, h3, h4⟩ := h
  dsimp only at h1 h2 h3 h4 hp
  subst h1 h2
  unfold RBy.write RBy.cutN RBy.offN
  dsimp only
  cases ro
  · cases rb
    · obtain rfl := h4 rfl
      rw [write_free s rd p hp]
      simp only [if_neg Bool.false_ne_true, Bool.false_eq_true, false_and, if_false, List.take_length]
      exact ⟨rfl, rfl, rfl, fun h => absurd h (by simp), fun _ => rfl⟩
    · obtain ⟨h5, h6⟩ := h3 rfl
      obtain ⟨n, rfl⟩ := Int.eq_ofNat_of_zero_le h6
      subst h5
      rw [write_bnd s rd p n hp]
      by_cases hn : s.length ≤ n
      · rw [if_pos hn]
        have hc : ¬ (true = true ∧ (n : Int) < (s.length : Int)) := by simp; omega
        have e1 : (if true = true ∧ (n : Int) < (s.length : Int) then (n : Int).toNat else s.length) = s.length := if_neg hc
        have e2 : (if true = true ∧ (n : Int) < (s.length : Int) then true else false) = false := if_neg hc
        rw [if_neg Bool.false_ne_true, if_neg Bool.false_ne_true, e1, e2, List.take_length]
        exact ⟨rfl, rfl, rfl, fun _ => ⟨rfl, by dsimp only; omega⟩, fun h => absurd h (by simp)⟩
      · rw [if_neg hn]
        have hc : true = true ∧ (n : Int) < (s.length : Int) := ⟨rfl, by omega⟩
        have e1 : (if true = true ∧ (n : Int) < (s.length : Int) then (n : Int).toNat else s.length) = n := (if_pos hc).trans (Int.toNat_natCast n)
        have e2 : (if true = true ∧ (n : Int) < (s.length : Int) then true else false) = true := if_pos hc
        rw [if_neg Bool.false_ne_true, if_neg Bool.false_ne_true, e1, e2]
        exact ⟨rfl, rfl, rfl, fun _ => ⟨by dsimp only; omega, by dsimp only; omega⟩, fun h => absurd h (by simp)⟩
  · rw [write_off hs]
    simp only [if_true, List.take_zero, laid_nil]
    refine ⟨rfl, rfl, rfl, fun h => ?_, fun h => h4 h⟩
    have := h3 h
    exact ⟨by dsimp only; omega, this.2⟩
theorem left_write (R : RBy) (p : Nat) (s : List UInt8) (hbd : R.bnd = true → 0 ≤ R.left) : R.left - s.length ≤ (R.write p s).2.left ∧ (R.write p s).2.left ≤ R.left ∧ ((R.write p s).2.bnd = true → 0 ≤ (R.write p s).2.left) ∧ (R.write p s).2.bnd = R.bnd := by
  unfold RBy.write RBy.cutN
  dsimp only
  have hcut : ∀ m : Nat, (if R.off = true then 0 else if R.bnd = true ∧ R.left < (m : Int) then R.left.toNat else m) ≤ m ∧ (R.bnd = true → ((if R.off = true then 0 else if R.bnd = true ∧ R.left < (m : Int) then R.left.toNat else m : Nat) : Int) ≤ R.left) := by
    intro m
    split
    · exact ⟨by omega, fun h => by have := hbd h; omega⟩
    · split
      · rename_i h
        have := hbd h.1
        exact ⟨by omega, fun _ => by omega⟩
      · rename_i h
        exact ⟨by omega, fun hb => by
          have : ¬ R.left < (m : Int) := fun h2 => h ⟨hb, h2⟩
          omega⟩
  have := hcut s.length
  refine ⟨by omega, by omega, fun h => ?_, rfl⟩
  have := this.2 h
  omega
/-- The reference's bytes: what a call may find. -/
structure ROk (R : RBy) (k : Nat) : Prop where
  len : R.data.length = 64
  bnd : R.bnd = true → 0 ≤ R.left
  lo : -(k : Int) ≤ R.left
  hi : R.left ≤ 9223372036854775807
theorem ROk.write {R : RBy} {k : Nat} (h : ROk R k) (p : Nat) (s : List UInt8) (hp : p + s.length ≤ 64) : ROk (R.write p s).2 (k + s.length) := by
  obtain ⟨h1, h2, h3, h4⟩ := left_write R p s h.bnd
  have hl := h.lo
  have hh := h.hi
  refine ⟨?_, h3, by omega, by omega⟩
  unfold RBy.write
  dsimp only
  rw [laid_len (by rw [List.length_take, h.len]; omega), h.len]
theorem ROk.le {R : RBy} {k m : Nat} (h : ROk R k) (hm : k ≤ m) : ROk R m := ⟨h.len, h.bnd, by have := h.lo; omega, h.hi⟩

theorem Ev.St.copyS {P : Program} {w0 w : World} {S : Nat → Prop} {H : List Ent} (h : St w0 S w H) (i : Nat) {b o : Nat} {t dT sT e ty : TypeId} {cs : List Value} {s : List UInt8} {dLen dCap : Nat} {k : Value → World → Prop} (hi : H[i]? = some (Ev.blk b t cs))
    (hu : P.underlying dT = some (.slice e)) (hs : (P.info? e).map (·.size) = some 1) (hle : s.length ≤ dLen) (hfit : o + s.length ≤ cs.length)
    (hk : ∀ w', St w0 S w' (H.set i (Ev.blk b t (over cs o (s.flatMap encU)))) → k (.int .i64 (s.length : Nat)) w') : RunC P (Builtin.copy_ #[dT, sT] ty #[.slice (some ⟨b, o, none⟩) dLen dCap, .string (bs s)]) w k := by
  have hb := h.blk i hi
  have hfl : s.flatMap encU = Lib.byteCells s := by
    clear hle hfit hk
    induction s with
    | nil => rfl
    | cons x r ih => rw [List.flatMap_cons, ih]; rfl
  have hr := Lib.run_copy_row_string (P := P) w dT sT ty e b o dLen dCap (bs s) cs.toArray t hu hs hb (by rw [bs_size]; exact hle) (by rw [bs_size]; simpa using hfit)
  refine ⟨_, _, hr, ?_⟩
  rw [bs_size]
  have e1 : w.setRow b (cs.toArray.toList.take o ++ Lib.byteCells (bs s).data.toList ++ cs.toArray.toList.drop (o + s.length)).toArray = setBlk w b t (over cs o (s.flatMap encU)) := by
    unfold World.setRow setBlk
    congr 1
    have e2 : (cs.toArray.toList.take o ++ Lib.byteCells (bs s).data.toList ++ cs.toArray.toList.drop (o + s.length)) = over cs o (s.flatMap encU) := by
      unfold over
      rw [hfl]
      simp [bs, Lib.byteCells]
    rw [e2]
    have lt := hb.lt
    have hb' : w.heap[b]? = some (.cells cs.toArray t (0, 0)) := hb
    apply Array.ext_getElem?
    intro j
    rw [Array.getElem?_modify, Array.getElem?_setIfInBounds]
    by_cases hj : b = j
    · subst hj
      rw [if_pos rfl, if_pos rfl, if_pos lt, hb']
      rfl
    · rw [if_neg hj, if_neg hj]
  rw [e1]
  exact hk _ (h.upd i hi (T := (· = b)) (Ext.set (S := (· = b)) (b := b) rfl t _) (fun c hc => by simp [Ev.blk, hc]) (blk_local _ _ _) (setBlk_blk hb.lt) (fun c hc => .inl hc))

section
variable {w : World} {b c : Nat} {B : BytS} {R : RBy}
theorem rcput_ok {C : CelS} {k : Nat} (e l : Int) (hC : Blk w c 175 (encCl b C)) (hB : Blk w b 171 (encRB R)) (hA : Alike R B) (hO : BOk B) (hR : ROk R k) (hk : k ≤ 50000000) (hN : C.num < 4294967296) :
    CallC Tryz.prog 109 #[.pointer (some ⟨c, 0, none⟩), .int .i64 e, .int .i64 l] w fun v w' => v = .int .i64 ((C.put B e l).1 : Nat) ∧ Ext (fun d => d = b ∨ d = c) w w' ∧ ∃ R', Alike R' (C.put B e l).2.1 ∧ ROk R' (k + 18) ∧ Blk w' b 171 (encRB R') ∧ Blk w' c 175 (encCl b (C.put B e l).2.2) := by
  have hcb : ¬ c = b := Blk.ne hC hB (by decide)
  unfold CelS.put
  refine fn_intro tabOk Tryz.func109 (by kernel_rfl) rfl Tryz.ntmps109 (Nat.le_of_ble_eq_true rfl) ?_
  have hS := (St.start w (fun d => d = b ∨ d = c)).add (blk_local b _ _) hB (by simp [blk]; exact hB.lt) (by simp)
  have hS := hS.add (blk_local c _ _) hC (by simp [blk]; exact hC.lt) (by simp [blk]; omega)
  (conv => whnf)
  refine hS.ld 1 rfl (o := 4) rfl ?_
  cases hd : C.dead
  · rw [if_neg Bool.false_ne_true]
    by_cases hr : e < 0 ∨ e > 1073741824 ∨ l < 0 ∨ l > 1073741824
    · rw [if_pos hr]
      (conv => whnf)
      refine brD (fun h1 => ?_) (fun h1 => ?_)
      · skip
        repeat' ((conv => whnf); first | refine RetC.mk ?_ | refine NzC.mk (by decide) ?_ | refine RngC.mk (by omega) (by omega) ?_ | refine IdxC.mk (by omega) (by omega) ?_ | refine brD (fun _ => ?_) (fun _ => ?_) | refine brND (fun _ => ?_) (fun _ => ?_) | refine brN (fun _ => ?_) (fun _ => ?_) | refine brI (fun _ => ?_) (fun _ => ?_))
        exact ⟨rfl, hS.ext, R, hA, hR.le (by omega), hS.blk 0 rfl, hS.blk 1 rfl⟩
      (conv => whnf)
      refine brD (fun h2 => ?_) (fun h2 => ?_)
      · skip
        repeat' ((conv => whnf); first | refine RetC.mk ?_ | refine NzC.mk (by decide) ?_ | refine RngC.mk (by omega) (by omega) ?_ | refine IdxC.mk (by omega) (by omega) ?_ | refine brD (fun _ => ?_) (fun _ => ?_) | refine brND (fun _ => ?_) (fun _ => ?_) | refine brN (fun _ => ?_) (fun _ => ?_) | refine brI (fun _ => ?_) (fun _ => ?_))
        exact ⟨rfl, hS.ext, R, hA, hR.le (by omega), hS.blk 0 rfl, hS.blk 1 rfl⟩
      (conv => whnf)
      refine brD (fun h3 => ?_) (fun h3 => ?_)
      · skip
        repeat' ((conv => whnf); first | refine RetC.mk ?_ | refine NzC.mk (by decide) ?_ | refine RngC.mk (by omega) (by omega) ?_ | refine IdxC.mk (by omega) (by omega) ?_ | refine brD (fun _ => ?_) (fun _ => ?_) | refine brND (fun _ => ?_) (fun _ => ?_) | refine brN (fun _ => ?_) (fun _ => ?_) | refine brI (fun _ => ?_) (fun _ => ?_))
        exact ⟨rfl, hS.ext, R, hA, hR.le (by omega), hS.blk 0 rfl, hS.blk 1 rfl⟩
      (conv => whnf)
      refine brD (fun h4 => ?_) (fun h4 => absurd hr (by omega))
      repeat' ((conv => whnf); first | refine RetC.mk ?_ | refine NzC.mk (by decide) ?_ | refine RngC.mk (by omega) (by omega) ?_ | refine IdxC.mk (by omega) (by omega) ?_ | refine brD (fun _ => ?_) (fun _ => ?_) | refine brND (fun _ => ?_) (fun _ => ?_) | refine brN (fun _ => ?_) (fun _ => ?_) | refine brI (fun _ => ?_) (fun _ => ?_))
      exact ⟨rfl, hS.ext, R, hA, hR.le (by omega), hS.blk 0 rfl, hS.blk 1 rfl⟩
    rw [if_neg hr]
    (conv => whnf)
    refine brD (fun h => absurd h (by omega)) (fun h1 => ?_)
    (conv => whnf)
    refine brD (fun h => absurd h (by omega)) (fun h2 => ?_)
    (conv => whnf)
    refine brD (fun h => absurd h (by omega)) (fun h3 => ?_)
    (conv => whnf)
    refine brD (fun h => absurd h (by omega)) (fun h4 => ?_)
    obtain ⟨e, rfl⟩ := Int.eq_ofNat_of_zero_le (show 0 ≤ e by omega)
    obtain ⟨l, rfl⟩ := Int.eq_ofNat_of_zero_le (show 0 ≤ l by omega)
    simp only [Int.toNat_natCast]
    (conv => whnf)
    refine hS.ld 1 rfl (o := 2) rfl ?_
    by_cases ho : (e : Int) < C.ep ∨ (l : Int) < C.li
    · rw [if_pos ho]
      (conv => whnf)
      refine brD (fun h5 => ?_) (fun h5 => ?_)
      · skip
        repeat' ((conv => whnf); first | refine RetC.mk ?_ | refine NzC.mk (by decide) ?_ | refine RngC.mk (by omega) (by omega) ?_ | refine IdxC.mk (by omega) (by omega) ?_ | refine brD (fun _ => ?_) (fun _ => ?_) | refine brND (fun _ => ?_) (fun _ => ?_) | refine brN (fun _ => ?_) (fun _ => ?_) | refine brI (fun _ => ?_) (fun _ => ?_))
        exact ⟨rfl, hS.ext, R, hA, hR.le (by omega), hS.blk 0 rfl, hS.blk 1 rfl⟩
      (conv => whnf)
      refine hS.ld 1 rfl (o := 3) rfl ?_
      (conv => whnf)
      refine brD (fun h6 => ?_) (fun h6 => absurd ho (by omega))
      repeat' ((conv => whnf); first | refine RetC.mk ?_ | refine NzC.mk (by decide) ?_ | refine RngC.mk (by omega) (by omega) ?_ | refine IdxC.mk (by omega) (by omega) ?_ | refine brD (fun _ => ?_) (fun _ => ?_) | refine brND (fun _ => ?_) (fun _ => ?_) | refine brN (fun _ => ?_) (fun _ => ?_) | refine brI (fun _ => ?_) (fun _ => ?_))
      exact ⟨rfl, hS.ext, R, hA, hR.le (by omega), hS.blk 0 rfl, hS.blk 1 rfl⟩
    rw [if_neg ho]
    (conv => whnf)
    refine brD (fun h => absurd h (by omega)) (fun h5 => ?_)
    (conv => whnf)
    refine hS.ld 1 rfl (o := 3) rfl ?_
    (conv => whnf)
    refine brD (fun h => absurd h (by omega)) (fun h6 => ?_)
    (conv => whnf)
    refine hS.ld 1 rfl (o := 1) rfl ?_
    (conv => whnf)
    refine RngC.mk (by omega) (by omega) ?_
    rw [show (C.num : Int) + 1 = ((C.num + 1 : Nat) : Int) by omega]
    (conv => whnf)
    refine brD (fun h7 => ?_) (fun h7 => ?_)
    · rw [if_pos (show C.num + 1 ≥ 4294967296 by omega)]
      repeat' ((conv => whnf); first | refine RetC.mk ?_ | refine NzC.mk (by decide) ?_ | refine RngC.mk (by omega) (by omega) ?_ | refine IdxC.mk (by omega) (by omega) ?_ | refine brD (fun _ => ?_) (fun _ => ?_) | refine brND (fun _ => ?_) (fun _ => ?_) | refine brN (fun _ => ?_) (fun _ => ?_) | refine brI (fun _ => ?_) (fun _ => ?_))
      exact ⟨rfl, hS.ext, R, hA, hR.le (by omega), hS.blk 0 rfl, hS.blk 1 rfl⟩
    rw [if_neg (show ¬ C.num + 1 ≥ 4294967296 by omega)]
    have hmod : ((C.num + 1 : Nat) : Int).tmod 2 = (((C.num + 1) % 2 : Nat) : Int) := by rw [Int.tmod_eq_emod_of_nonneg (by omega)]; omega
    have hn2 : (C.num + 1) % 2 < 2 := Nat.mod_lt _ (by omega)
    have hbl := bodyB_len (C.num + 1) e l
    unfold cwrite
    have h20 : ((C.num + 1 : Nat) : Int).tmod 2 * 20 = (((C.num + 1) % 2 * 20 : Nat) : Int) := by rw [hmod]; omega
    have h36 : (C.num + 1) % 2 * 20 ≤ 20 := by omega
    generalize (C.num + 1) % 2 * 20 = p at h20 h36
    have hpp : (p : Int) + 16 = ((p + 16 : Nat) : Int) := by omega
    repeat' ((conv => whnf); first | refine RetC.mk ?_ | refine NzC.mk (by decide) ?_ | refine RngC.mk (by omega) (by omega) ?_ | refine IdxC.mk (by omega) (by omega) ?_ | refine RngC.mk (by omega) (by omega) ?_ | refine brD (fun _ => ?_) (fun _ => ?_) | refine brND (fun _ => ?_) (fun _ => ?_) | refine brN (fun _ => ?_) (fun _ => ?_) | refine brI (fun _ => ?_) (fun _ => ?_))
    rw [h20]
    (conv => whnf)
    refine hS.ld 1 rfl (o := 0) rfl ?_
    (conv => whnf)
    refine hS.ld 0 rfl rfl ?_
    rw [hA.off]
    cases hoff : B.off
    · rw [if_neg Bool.false_ne_true]
      (conv => whnf)
      refine hS.ld 1 rfl (o := 0) rfl ?_
      (conv => whnf)
      refine hS.ld 0 rfl rfl ?_
      rw [hA.data]
      (conv => whnf)
      refine RngC.mk (by omega) (by omega) ?_
      rw [hpp]
      obtain ⟨x, hx⟩ : ∃ x, B.data[p + 16]? = some x := ⟨_, List.getElem?_eq_getElem (by have := hO.len; omega)⟩
      have hmk : mark B (p + 16) = if x = 0 then (true, B) else B.write (p + 16) [0] := by unfold mark; rw [hx]
      (conv => whnf)
      refine idxS Tryz.underlying9 rfl hx ?_
      (conv => whnf)
      refine neC ?_
      (conv => whnf)
      refine brND (fun h1 => ?_) (fun h1 => ?_)
      · rw [if_neg (by rintro rfl; exact h1 rfl)] at hmk
        rw [hmk]
        have hO1 := hO.write [0] (p + 16)
        have hA1 := alike_write (p := p + 16) (s := [UInt8.ofNat 0]) hA (by have := hO.len; simp; omega) (by simp)
        have hR1 := hR.write (p + 16) [UInt8.ofNat 0] (by simp; omega)
        (conv => whnf)
        (refine drawS tabOk mixed [] ((· = b)) [0, 1, 2, 3, 4, 5, 6, 7, 8] (by kernel_rfl) ?_; rintro w1 rfl; replace hS := hS.drew)
        repeat' ((conv => whnf); first | refine RetC.mk ?_ | refine NzC.mk (by decide) ?_ | refine RngC.mk (by omega) (by omega) ?_ | refine IdxC.mk (by omega) (by omega) ?_ | refine hS.ldF 1 rfl rfl hcb ?_ | refine brD (fun _ => ?_) (fun _ => ?_) | refine brND (fun _ => ?_) (fun _ => ?_) | refine brN (fun _ => ?_) (fun _ => ?_) | refine brI (fun _ => ?_) (fun _ => ?_))
        refine (rbyte_ok 0 (by omega) _).mono ?_
        rintro v w2 ⟨rfl, hx1⟩
        replace hS := hS.no hx1
        refine KeepC.mk hx1.of_no ?_
        (conv => whnf)
        rw [hpp]
        refine (rbwrite_ok (p + 16) [UInt8.ofNat 0] (by first | omega | (simp; omega)) hR.len hR.bnd ⟨by have := hR.lo; omega, hR.hi⟩ (hS.blk 0 rfl)).mono ?_
        rintro v w' ⟨rfl, hx', hB'⟩
        replace hS := hS.upd 0 rfl hx' (fun c hc => by subst hc; exact List.mem_singleton.2 rfl) (blk_local _ _ _) hB' (fun c hc => .inl hc)
        refine KeepC.mk (hx1.of_no.trans hx') ?_
        clear hx' hB' hx1
        generalize RBy.write R (p + 16) [UInt8.ofNat 0] = Q at hS hA1 hR1 ⊢
        obtain ⟨ok0, R1⟩ := Q
        rw [show ([0] : List UInt8) = [UInt8.ofNat 0] from rfl] at hO1 ⊢
        generalize BytS.write B (p + 16) [UInt8.ofNat 0] = Q at hA1 hO1 ⊢
        obtain ⟨ok1, B1⟩ := Q
        obtain ⟨he1, hA1⟩ := hA1
        dsimp only at he1 hA1 hR1 hO1
        subst he1
        have hR1 := hR1.le (show k + [UInt8.ofNat 0].length ≤ k + 1 by simp)
        cases ok0
        · skip
          (conv => whnf)
          refine hS.st 1 rfl (Nat.le_of_ble_eq_true rfl) rfl (fun w' hS => ?_)
          repeat' ((conv => whnf); first | refine RetC.mk ?_ | refine NzC.mk (by decide) ?_ | refine RngC.mk (by omega) (by omega) ?_ | refine IdxC.mk (by omega) (by omega) ?_ | refine brD (fun _ => ?_) (fun _ => ?_) | refine brND (fun _ => ?_) (fun _ => ?_) | refine brN (fun _ => ?_) (fun _ => ?_) | refine brI (fun _ => ?_) (fun _ => ?_))
          exact ⟨rfl, hS.ext, R1, hA1, hR1.le (by omega), hS.blk 0 rfl, hS.blk 1 rfl⟩
        · rw [if_pos rfl]
          (conv => whnf)
          (refine drawS tabOk mixed [] ((· = b)) [0, 1, 2, 3, 4, 5, 6, 7, 8, 9, 10] (by kernel_rfl) ?_; rintro w1 rfl; replace hS := hS.drew)
          repeat' ((conv => whnf); first | refine RetC.mk ?_ | refine NzC.mk (by decide) ?_ | refine RngC.mk (by omega) (by omega) ?_ | refine IdxC.mk (by omega) (by omega) ?_ | refine hS.ldF 1 rfl rfl hcb ?_ | refine brD (fun _ => ?_) (fun _ => ?_) | refine brND (fun _ => ?_) (fun _ => ?_) | refine brN (fun _ => ?_) (fun _ => ?_) | refine brI (fun _ => ?_) (fun _ => ?_))
          refine (rbody_ok (C.num + 1) e l (by omega) (by omega) (by omega) _).mono ?_
          rintro v w2 ⟨rfl, hx1⟩
          replace hS := hS.no hx1
          refine KeepC.mk hx1.of_no ?_
          (conv => whnf)
          have hA2 := alike_write (p := p) (s := bodyB (C.num + 1) e l) hA1 (by have := hO1.len; omega) (by intro h; rw [h] at hbl; simp at hbl)
          have hR2 := hR1.write p (bodyB (C.num + 1) e l) (by omega)
          have hO2 := BOk.write (bodyB (C.num + 1) e l) p hO1
          refine (rbwrite_ok p (bodyB (C.num + 1) e l) (by first | omega | (simp; omega)) hR1.len hR1.bnd ⟨by have := hR1.lo; omega, hR1.hi⟩ (hS.blk 0 rfl)).mono ?_
          rintro v w' ⟨rfl, hx', hB'⟩
          replace hS := hS.upd 0 rfl hx' (fun c hc => by subst hc; exact List.mem_singleton.2 rfl) (blk_local _ _ _) hB' (fun c hc => .inl hc)
          refine KeepC.mk (hx1.of_no.trans hx') ?_
          clear hx' hB' hx1
          rw [hbl] at hR2
          generalize RBy.write R1 p (bodyB (C.num + 1) e l) = Q at hS hA2 hR2 ⊢
          obtain ⟨ok2, R2⟩ := Q
          generalize BytS.write B1 p (bodyB (C.num + 1) e l) = Q at hO2 hA2 ⊢
          obtain ⟨ok3, B2⟩ := Q
          obtain ⟨he1, hA2⟩ := hA2
          dsimp only at he1 hA2 hR2 hO2
          subst he1
          cases ok2
          · skip
            (conv => whnf)
            refine hS.st 1 rfl (Nat.le_of_ble_eq_true rfl) rfl (fun w' hS => ?_)
            repeat' ((conv => whnf); first | refine RetC.mk ?_ | refine NzC.mk (by decide) ?_ | refine RngC.mk (by omega) (by omega) ?_ | refine IdxC.mk (by omega) (by omega) ?_ | refine brD (fun _ => ?_) (fun _ => ?_) | refine brND (fun _ => ?_) (fun _ => ?_) | refine brN (fun _ => ?_) (fun _ => ?_) | refine brI (fun _ => ?_) (fun _ => ?_))
            exact ⟨rfl, hS.ext, R2, hA2, hR2.le (by omega), hS.blk 0 rfl, hS.blk 1 rfl⟩
          · rw [if_pos rfl]
            (conv => whnf)
            (refine drawS tabOk mixed [] ((· = b)) [0, 1, 2, 3, 4, 5, 6, 7, 8] (by kernel_rfl) ?_; rintro w1 rfl; replace hS := hS.drew)
            repeat' ((conv => whnf); first | refine RetC.mk ?_ | refine NzC.mk (by decide) ?_ | refine RngC.mk (by omega) (by omega) ?_ | refine IdxC.mk (by omega) (by omega) ?_ | refine hS.ldF 1 rfl rfl hcb ?_ | refine brD (fun _ => ?_) (fun _ => ?_) | refine brND (fun _ => ?_) (fun _ => ?_) | refine brN (fun _ => ?_) (fun _ => ?_) | refine brI (fun _ => ?_) (fun _ => ?_))
            refine (rbyte_ok 165 (by omega) _).mono ?_
            rintro v w2 ⟨rfl, hx1⟩
            replace hS := hS.no hx1
            refine KeepC.mk hx1.of_no ?_
            (conv => whnf)
            rw [hpp]
            have hA3 := alike_write (p := p + 16) (s := [UInt8.ofNat 165]) hA2 (by have := hO2.len; simp; omega) (by simp)
            have hR3 := hR2.write (p + 16) [UInt8.ofNat 165] (by simp; omega)
            refine (rbwrite_ok (p + 16) [UInt8.ofNat 165] (by first | omega | (simp; omega)) hR2.len hR2.bnd ⟨by have := hR2.lo; omega, hR2.hi⟩ (hS.blk 0 rfl)).mono ?_
            rintro v w' ⟨rfl, hx', hB'⟩
            replace hS := hS.upd 0 rfl hx' (fun c hc => by subst hc; exact List.mem_singleton.2 rfl) (blk_local _ _ _) hB' (fun c hc => .inl hc)
            refine KeepC.mk (hx1.of_no.trans hx') ?_
            clear hx' hB' hx1
            generalize RBy.write R2 (p + 16) [UInt8.ofNat 165] = Q at hS hA3 hR3 ⊢
            obtain ⟨ok4, R3⟩ := Q
            rw [show ([165] : List UInt8) = [UInt8.ofNat 165] from rfl]
            generalize BytS.write B2 (p + 16) [UInt8.ofNat 165] = Q at hA3 ⊢
            obtain ⟨ok5, B3⟩ := Q
            obtain ⟨he1, hA3⟩ := hA3
            dsimp only at he1 hA3 hR3
            subst he1
            cases ok4
            · skip
              (conv => whnf)
              refine hS.st 1 rfl (Nat.le_of_ble_eq_true rfl) rfl (fun w' hS => ?_)
              repeat' ((conv => whnf); first | refine RetC.mk ?_ | refine NzC.mk (by decide) ?_ | refine RngC.mk (by omega) (by omega) ?_ | refine IdxC.mk (by omega) (by omega) ?_ | refine brD (fun _ => ?_) (fun _ => ?_) | refine brND (fun _ => ?_) (fun _ => ?_) | refine brN (fun _ => ?_) (fun _ => ?_) | refine brI (fun _ => ?_) (fun _ => ?_))
              exact ⟨rfl, hS.ext, R3, hA3, hR3.le (by first | omega | (simp; omega) | simp), hS.blk 0 rfl, hS.blk 1 rfl⟩
            · (conv => whnf)
              refine hS.st 1 rfl (Nat.le_of_ble_eq_true rfl) rfl (fun w' hS => ?_)
              (conv => whnf)
              refine hS.st 1 rfl (Nat.le_of_ble_eq_true rfl) rfl (fun w' hS => ?_)
              (conv => whnf)
              refine hS.st 1 rfl (Nat.le_of_ble_eq_true rfl) rfl (fun w' hS => ?_)
              repeat' ((conv => whnf); first | refine RetC.mk ?_ | refine NzC.mk (by decide) ?_ | refine RngC.mk (by omega) (by omega) ?_ | refine IdxC.mk (by omega) (by omega) ?_ | refine brD (fun _ => ?_) (fun _ => ?_) | refine brND (fun _ => ?_) (fun _ => ?_) | refine brN (fun _ => ?_) (fun _ => ?_) | refine brI (fun _ => ?_) (fun _ => ?_))
              exact ⟨rfl, hS.ext, R3, hA3, hR3.le (by first | omega | (simp; omega) | simp), hS.blk 0 rfl, (hS.blk 1 rfl).to (by rw [← hd]; rfl)⟩
      · rw [if_pos (by
          have h2 : x.toNat = 0 := by omega
          exact UInt8.toNat_inj.1 h2)] at hmk
        rw [hmk, if_pos rfl]
        (conv => whnf)
        (refine drawS tabOk mixed [] ((· = b)) [0, 1, 2, 3, 4, 5, 6, 7, 8, 9, 10] (by kernel_rfl) ?_; rintro w1 rfl; replace hS := hS.drew)
        repeat' ((conv => whnf); first | refine RetC.mk ?_ | refine NzC.mk (by decide) ?_ | refine RngC.mk (by omega) (by omega) ?_ | refine IdxC.mk (by omega) (by omega) ?_ | refine hS.ldF 1 rfl rfl hcb ?_ | refine brD (fun _ => ?_) (fun _ => ?_) | refine brND (fun _ => ?_) (fun _ => ?_) | refine brN (fun _ => ?_) (fun _ => ?_) | refine brI (fun _ => ?_) (fun _ => ?_))
        refine (rbody_ok (C.num + 1) e l (by omega) (by omega) (by omega) _).mono ?_
        rintro v w2 ⟨rfl, hx1⟩
        replace hS := hS.no hx1
        refine KeepC.mk hx1.of_no ?_
        (conv => whnf)
        have hA2 := alike_write (p := p) (s := bodyB (C.num + 1) e l) hA (by have := hO.len; omega) (by intro h; rw [h] at hbl; simp at hbl)
        have hR2 := hR.write p (bodyB (C.num + 1) e l) (by omega)
        have hO2 := BOk.write (bodyB (C.num + 1) e l) p hO
        refine (rbwrite_ok p (bodyB (C.num + 1) e l) (by first | omega | (simp; omega)) hR.len hR.bnd ⟨by have := hR.lo; omega, hR.hi⟩ (hS.blk 0 rfl)).mono ?_
        rintro v w' ⟨rfl, hx', hB'⟩
        replace hS := hS.upd 0 rfl hx' (fun c hc => by subst hc; exact List.mem_singleton.2 rfl) (blk_local _ _ _) hB' (fun c hc => .inl hc)
        refine KeepC.mk (hx1.of_no.trans hx') ?_
        clear hx' hB' hx1
        rw [hbl] at hR2
        generalize RBy.write R p (bodyB (C.num + 1) e l) = Q at hS hA2 hR2 ⊢
        obtain ⟨ok2, R2⟩ := Q
        generalize BytS.write B p (bodyB (C.num + 1) e l) = Q at hO2 hA2 ⊢
        obtain ⟨ok3, B2⟩ := Q
        obtain ⟨he1, hA2⟩ := hA2
        dsimp only at he1 hA2 hR2 hO2
        subst he1
        cases ok2
        · skip
          (conv => whnf)
          refine hS.st 1 rfl (Nat.le_of_ble_eq_true rfl) rfl (fun w' hS => ?_)
          repeat' ((conv => whnf); first | refine RetC.mk ?_ | refine NzC.mk (by decide) ?_ | refine RngC.mk (by omega) (by omega) ?_ | refine IdxC.mk (by omega) (by omega) ?_ | refine brD (fun _ => ?_) (fun _ => ?_) | refine brND (fun _ => ?_) (fun _ => ?_) | refine brN (fun _ => ?_) (fun _ => ?_) | refine brI (fun _ => ?_) (fun _ => ?_))
          exact ⟨rfl, hS.ext, R2, hA2, hR2.le (by omega), hS.blk 0 rfl, hS.blk 1 rfl⟩
        · rw [if_pos rfl]
          (conv => whnf)
          (refine drawS tabOk mixed [] ((· = b)) [0, 1, 2, 3, 4, 5, 6, 7, 8] (by kernel_rfl) ?_; rintro w1 rfl; replace hS := hS.drew)
          repeat' ((conv => whnf); first | refine RetC.mk ?_ | refine NzC.mk (by decide) ?_ | refine RngC.mk (by omega) (by omega) ?_ | refine IdxC.mk (by omega) (by omega) ?_ | refine hS.ldF 1 rfl rfl hcb ?_ | refine brD (fun _ => ?_) (fun _ => ?_) | refine brND (fun _ => ?_) (fun _ => ?_) | refine brN (fun _ => ?_) (fun _ => ?_) | refine brI (fun _ => ?_) (fun _ => ?_))
          refine (rbyte_ok 165 (by omega) _).mono ?_
          rintro v w2 ⟨rfl, hx1⟩
          replace hS := hS.no hx1
          refine KeepC.mk hx1.of_no ?_
          (conv => whnf)
          rw [hpp]
          have hA3 := alike_write (p := p + 16) (s := [UInt8.ofNat 165]) hA2 (by have := hO2.len; simp; omega) (by simp)
          have hR3 := hR2.write (p + 16) [UInt8.ofNat 165] (by simp; omega)
          refine (rbwrite_ok (p + 16) [UInt8.ofNat 165] (by first | omega | (simp; omega)) hR2.len hR2.bnd ⟨by have := hR2.lo; omega, hR2.hi⟩ (hS.blk 0 rfl)).mono ?_
          rintro v w' ⟨rfl, hx', hB'⟩
          replace hS := hS.upd 0 rfl hx' (fun c hc => by subst hc; exact List.mem_singleton.2 rfl) (blk_local _ _ _) hB' (fun c hc => .inl hc)
          refine KeepC.mk (hx1.of_no.trans hx') ?_
          clear hx' hB' hx1
          generalize RBy.write R2 (p + 16) [UInt8.ofNat 165] = Q at hS hA3 hR3 ⊢
          obtain ⟨ok4, R3⟩ := Q
          rw [show ([165] : List UInt8) = [UInt8.ofNat 165] from rfl]
          generalize BytS.write B2 (p + 16) [UInt8.ofNat 165] = Q at hA3 ⊢
          obtain ⟨ok5, B3⟩ := Q
          obtain ⟨he1, hA3⟩ := hA3
          dsimp only at he1 hA3 hR3
          subst he1
          cases ok4
          · skip
            (conv => whnf)
            refine hS.st 1 rfl (Nat.le_of_ble_eq_true rfl) rfl (fun w' hS => ?_)
            repeat' ((conv => whnf); first | refine RetC.mk ?_ | refine NzC.mk (by decide) ?_ | refine RngC.mk (by omega) (by omega) ?_ | refine IdxC.mk (by omega) (by omega) ?_ | refine brD (fun _ => ?_) (fun _ => ?_) | refine brND (fun _ => ?_) (fun _ => ?_) | refine brN (fun _ => ?_) (fun _ => ?_) | refine brI (fun _ => ?_) (fun _ => ?_))
            exact ⟨rfl, hS.ext, R3, hA3, hR3.le (by first | omega | (simp; omega) | simp), hS.blk 0 rfl, hS.blk 1 rfl⟩
          · (conv => whnf)
            refine hS.st 1 rfl (Nat.le_of_ble_eq_true rfl) rfl (fun w' hS => ?_)
            (conv => whnf)
            refine hS.st 1 rfl (Nat.le_of_ble_eq_true rfl) rfl (fun w' hS => ?_)
            (conv => whnf)
            refine hS.st 1 rfl (Nat.le_of_ble_eq_true rfl) rfl (fun w' hS => ?_)
            repeat' ((conv => whnf); first | refine RetC.mk ?_ | refine NzC.mk (by decide) ?_ | refine RngC.mk (by omega) (by omega) ?_ | refine IdxC.mk (by omega) (by omega) ?_ | refine brD (fun _ => ?_) (fun _ => ?_) | refine brND (fun _ => ?_) (fun _ => ?_) | refine brN (fun _ => ?_) (fun _ => ?_) | refine brI (fun _ => ?_) (fun _ => ?_))
            exact ⟨rfl, hS.ext, R3, hA3, hR3.le (by first | omega | (simp; omega) | simp), hS.blk 0 rfl, (hS.blk 1 rfl).to (by rw [← hd]; rfl)⟩
    · rw [if_pos rfl]
      (conv => whnf)
      refine hS.st 1 rfl (Nat.le_of_ble_eq_true rfl) rfl (fun w' hS => ?_)
      repeat' ((conv => whnf); first | refine RetC.mk ?_ | refine NzC.mk (by decide) ?_ | refine RngC.mk (by omega) (by omega) ?_ | refine IdxC.mk (by omega) (by omega) ?_ | refine brD (fun _ => ?_) (fun _ => ?_) | refine brND (fun _ => ?_) (fun _ => ?_) | refine brN (fun _ => ?_) (fun _ => ?_) | refine brI (fun _ => ?_) (fun _ => ?_))
      exact ⟨rfl, hS.ext, R, hA, hR.le (by omega), hS.blk 0 rfl, hS.blk 1 rfl⟩
  · rw [if_pos rfl]
    repeat' ((conv => whnf); first | refine RetC.mk ?_ | refine NzC.mk (by decide) ?_ | refine RngC.mk (by omega) (by omega) ?_ | refine IdxC.mk (by omega) (by omega) ?_ | refine brD (fun _ => ?_) (fun _ => ?_) | refine brND (fun _ => ?_) (fun _ => ?_) | refine brN (fun _ => ?_) (fun _ => ?_) | refine brI (fun _ => ?_) (fun _ => ?_))
    exact ⟨rfl, hS.ext, R, hA, hR.le (by omega), hS.blk 0 rfl, hS.blk 1 rfl⟩
end
end Go.Proofs.YtoaghhcjlfiflaaGreatDoor

/-
  The reference's node, walked.
-/
namespace Go.Proofs.YtoaghhcjlfiflaaGreatDoor
open Go Ev

structure RNodeA where
  n : Nat
  r : Nat
  c : Nat
  t : Nat
  tg : Nat
  tc : Nat
  x : Nat
  xg : Nat
  xc : Nat
  m : Nat
  mg : Nat
  mc : Nat
  b : Nat
  ra : Option Addr
  rc : Nat
def encRN (A : RNodeA) (N : NodeS) : List Value := [.int .i64 N.id, .int .i64 N.now, .pointer (some ⟨A.c, 0, none⟩), .pointer (some ⟨A.r, 0, none⟩), .pointer (some ⟨A.t, 0, none⟩), .pointer (some ⟨A.x, 0, none⟩), .pointer (some ⟨A.m, 0, none⟩), .slice A.ra N.rules.length A.rc]
def rnodeH (A : RNodeA) (N : NodeS) (R : RBy) : List Ent := [blk A.n 186 (encRN A N), blk A.r 178 (encRole N.role), blk A.c 175 (encCl A.b N.cell), refT A.t A.tg A.tc N.tab, refL A.t A.x A.xg A.xc N.tel, refM A.m A.mg A.mc N.mir, blk A.b 171 (encRB R)]
section
variable {w : World} {A : RNodeA} {N : NodeS} {R : RBy}
theorem St.neF {w0 w : World} {S : Nat → Prop} {H : List Ent} (h : St w0 S w H) (i j : Nat) {b c : Nat} {t : TypeId} {cs : List Value} {e : Ent} (hi : H[i]? = some (Ev.blk b t cs)) (hj : H[j]? = some e) (hne : i ≠ j) (hc : c ∈ e.foot) : b ≠ c := fun hb => h.apartAt i j hi hj hne b (List.mem_singleton.2 rfl) (hb ▸ hc)
theorem rpass_ok {m : Nat} (k : Int) (flags : Int) (out : Bool) (hN : Has w (rnodeH A N R)) (hO : NOk m N) (hm : m ≤ 40000000) (hk : N.tab.flowErr k = 0) :
    CallC Tryz.prog 173 #[.pointer (some ⟨A.n, 0, none⟩), .int .i64 k, .int .i64 flags, .bool out] w fun v w' => v = .agg (encFlow (flowAt N.tab k)).toArray ∧ Turns w w' (rnodeH A N R) (rnodeH A (N.pass k flags out) R) := by
  have hin : 0 ≤ k ∧ k < 32 := by
    unfold MirS.flowErr at hk
    split at hk
    · omega
    · omega
  obtain ⟨c, hc⟩ : ∃ c, N.tab.cells[k.toNat]? = some c := ⟨_, List.getElem?_eq_getElem (by rw [hO.tab.len]; omega)⟩
  have hcf : c.f = flowAt N.tab k := by unfold flowAt; rw [hc]
  refine fn_intro tabOk Tryz.func173 (by kernel_rfl) rfl Tryz.ntmps173 (Nat.le_of_ble_eq_true rfl) ?_
  have hS := hN.start
  (conv => whnf)
  refine hS.new (fun b8 w' hb8 hS => ?_)
  (conv => whnf)
  refine hS.ld 0 rfl rfl ?_
  (conv => whnf)
  refine ldc (refT_l (hS.get 3 rfl)) ?_
  (conv => whnf)
  refine IdxC.mk (by omega) (by omega) ?_
  (conv => whnf)
  have hca := refT_at (hS.get 3 rfl) hc
  refine ⟨encFlow c.f, rfl, by rw [Nat.zero_add]; exact hca.sub 2 rfl, ?_⟩
  clear hca
  (conv => whnf)
  refine hS.new (fun b9 w' hb9 hS => ?_)
  (conv => whnf)
  refine hS.st 8 rfl (Nat.le_of_ble_eq_true rfl) rfl (fun w' hS => ?_)
  replace hS : St w (inF (rnodeH A N R)) w' (rnodeH A N R ++ [blk b8 57 (encFlow noFlow), blk b9 57 (encFlow c.f)]) := hS
  repeat' ((conv => whnf); first | refine RetC.mk ?_ | refine NzC.mk (by decide) ?_ | refine RngC.mk (by omega) (by omega) ?_ | refine IdxC.mk (by omega) (by omega) ?_ | refine hS.ld 0 rfl rfl ?_ | refine hS.ld 1 rfl rfl ?_ | refine hS.ld 2 rfl rfl ?_ | refine hS.ld 3 rfl rfl ?_ | refine hS.ld 4 rfl rfl ?_ | refine hS.ld 5 rfl rfl ?_ | refine hS.ld 6 rfl rfl ?_ | refine hS.ld 7 rfl rfl ?_ | refine hS.ld 8 rfl rfl ?_ | refine hS.laX 0 rfl rfl ?_ | refine hS.laX 1 rfl rfl ?_ | refine hS.laX 2 rfl rfl ?_ | refine hS.laX 3 rfl rfl ?_ | refine hS.laX 4 rfl rfl ?_ | refine hS.laX 5 rfl rfl ?_ | refine hS.laX 6 rfl rfl ?_ | refine hS.laX 7 rfl rfl ?_ | refine hS.laX 8 rfl rfl ?_ | (refine (nextOf_ok c.f.proto c.f.state flags out _).mono ?_; rintro v w3 ⟨rfl, rfl⟩) | refine brD (fun _ => ?_) (fun _ => ?_) | refine brND (fun _ => ?_) (fun _ => ?_) | refine brN (fun _ => ?_) (fun _ => ?_) | refine brI (fun _ => ?_) (fun _ => ?_))
  · rename_i hg
    have hgone : N.pass k flags out = { N with tab := (N.tab.drop k).2 } := by
      unfold NodeS.pass
      rw [← hcf, hg]
    rw [hgone]
    refine (rdrop_ok k (hS.get 3 rfl) hO.tab (by omega)).mono ?_
    rintro v w' ⟨rfl, hx, hT⟩
    replace hS := hS.upd 3 rfl hx (fun d hd => by subst hd; simp [refT]) refT_local hT (fun d hd => .inl hd)
    (conv => whnf)
    refine hS.laX 8 rfl rfl ?_
    (conv => whnf)
    refine hS.st 7 rfl (Nat.le_of_ble_eq_true rfl) rfl (fun w' hS => ?_)
    (conv => whnf)
    refine hS.laX 7 rfl rfl ?_
    repeat' ((conv => whnf); first | refine RetC.mk ?_ | refine NzC.mk (by decide) ?_ | refine RngC.mk (by omega) (by omega) ?_ | refine IdxC.mk (by omega) (by omega) ?_ | refine brD (fun _ => ?_) (fun _ => ?_) | refine brND (fun _ => ?_) (fun _ => ?_) | refine brN (fun _ => ?_) (fun _ => ?_) | refine brI (fun _ => ?_) (fun _ => ?_))
    exact ⟨by rw [← hcf]; rfl, (hS.keep 7).turns⟩
  · rename_i hg
    have hstay : N.pass k flags out = { N with tab := (N.tab.setS k (nextS c.f.proto c.f.state flags out).1 (N.now + timeS c.f.proto (nextS c.f.proto c.f.state flags out).1)).2 } := by
      unfold NodeS.pass
      rw [← hcf, hg]
    rw [hstay]
    have hn1 := St.neF hS 0 3 rfl rfl (by decide) (c := A.tg) (by simp [refT])
    have hn2 := St.neF hS 8 3 rfl rfl (by decide) (c := A.tg) (by simp [refT])
    have htb := timeS_bound c.f.proto (nextS c.f.proto c.f.state flags out).1
    have hn0 := hO.n0
    have hn9 := hO.n1
    (refine drawS tabOk mixed [] (fun b => b = A.tg) [0, 1, 2, 3, 4, 5, 6, 7, 8, 9, 10, 11, 12, 13, 14, 15] (by kernel_rfl) ?_; rintro w1 rfl; replace hS := hS.drew)
    have hK := hS.ref (fun b => b = A.tg)
    repeat' ((conv => whnf); first | refine hS.ldF 0 rfl rfl hn1 ?_ | refine hS.ldF 8 rfl rfl hn2 ?_)
    refine (timeOf_ok _ _ _).mono ?_
    rintro v w3 ⟨rfl, rfl⟩
    refine KeepC.mk hK ?_
    repeat' ((conv => whnf); first | refine RetC.mk ?_ | refine NzC.mk (by decide) ?_ | refine RngC.mk (by omega) (by omega) ?_ | refine IdxC.mk (by omega) (by omega) ?_ | refine brD (fun _ => ?_) (fun _ => ?_) | refine brND (fun _ => ?_) (fun _ => ?_) | refine brN (fun _ => ?_) (fun _ => ?_) | refine brI (fun _ => ?_) (fun _ => ?_))
    refine (rset_ok k _ _ (hS.get 3 rfl) hO.tab (by omega)).mono ?_
    rintro v w' ⟨rfl, hx, hT⟩
    refine KeepC.mk (hK.trans hx) ?_
    replace hS := hS.upd 3 rfl hx (fun d hd => by subst hd; simp [refT]) refT_local hT (fun d hd => .inl hd)
    (conv => whnf)
    refine hS.laX 8 rfl rfl ?_
    (conv => whnf)
    refine hS.st 7 rfl (Nat.le_of_ble_eq_true rfl) rfl (fun w' hS => ?_)
    (conv => whnf)
    refine hS.laX 7 rfl rfl ?_
    repeat' ((conv => whnf); first | refine RetC.mk ?_ | refine NzC.mk (by decide) ?_ | refine RngC.mk (by omega) (by omega) ?_ | refine IdxC.mk (by omega) (by omega) ?_ | refine brD (fun _ => ?_) (fun _ => ?_) | refine brND (fun _ => ?_) (fun _ => ?_) | refine brN (fun _ => ?_) (fun _ => ?_) | refine brI (fun _ => ?_) (fun _ => ?_))
    exact ⟨by rw [← hcf]; rfl, (hS.keep 7).turns⟩
theorem rinside_ok {m : Nat} {G : RuleS → Prop} (p : PktS) (hN : Has w (rnodeH A N R)) (hO : NOk m N) (hm : m + 1 ≤ 40000000) (hr : Slc w 5 encRule G A.ra N.rules.length N.rules) (hsrc : 0 < N.rules.length → ∀ b0 o0, A.ra = some ⟨b0, o0, none⟩ → ¬ inF (rnodeH A N R) b0) :
    CallC Tryz.prog 118 #[.pointer (some ⟨A.n, 0, none⟩), .agg (encPkt p).toArray] w fun v w' => v = .tuple #[.agg (encPkt (N.inside p).2.1).toArray, .int .i64 ((N.inside p).1 : Nat)] ∧ Turns w w' (rnodeH A N R) (rnodeH A (N.inside p).2.2 R) := by
  have hlif : 0 ≤ N.tab.life ∧ N.tab.life ≤ 100000 := by
    have := hO.lif
    have := hO.id
    omega
  have hn0 := hO.n0
  have hn9 := hO.n1
  refine fn_intro tabOk Tryz.func118 (by kernel_rfl) rfl Tryz.ntmps118 (Nat.le_of_ble_eq_true rfl) ?_
  have hS := hN.start
  (conv => whnf)
  refine hS.new (fun bp w' hbp hS => ?_)
  (conv => whnf)
  refine hS.new (fun br w' hbr hS => ?_)
  replace hS : St w (inF (rnodeH A N R)) w' (rnodeH A N R ++ [blk bp 36 (encPkt p), blk br 36 (encPkt noPkt)]) := hS
  (conv => whnf)
  refine hS.laX 7 rfl rfl ?_
  (conv => whnf)
  refine (perror_ok p _).mono ?_
  rintro v w2 ⟨rfl, hx⟩
  replace hS := hS.no hx
  by_cases hp : p.err = 0
  case neg =>
    rw [show N.inside p = (p.err, noPkt, N) from if_pos hp]
    (conv => whnf)
    refine brD (fun _ => ?_) (fun h => absurd (show (p.err : Int) > 0 by omega) h)
    repeat' ((conv => whnf); first | refine RetC.mk ?_ | refine NzC.mk (by decide) ?_ | refine RngC.mk (by omega) (by omega) ?_ | refine IdxC.mk (by omega) (by omega) ?_ | refine hS.st 8 rfl (Nat.le_of_ble_eq_true rfl) rfl (fun w' hS => ?_) | refine hS.laX 8 rfl rfl ?_ | refine brD (fun _ => ?_) (fun _ => ?_) | refine brND (fun _ => ?_) (fun _ => ?_) | refine brN (fun _ => ?_) (fun _ => ?_) | refine brI (fun _ => ?_) (fun _ => ?_))
    exact ⟨rfl, (hS.keep 7).turns⟩
  rw [hp]
  (conv => whnf)
  refine hS.ld 0 rfl rfl ?_
  (conv => whnf)
  refine hS.ld 1 rfl (v := .bool N.role.active) rfl ?_
  cases ha : N.role.active
  · rw [show N.inside p = (9, noPkt, N) by unfold NodeS.inside; rw [if_neg (fun h => h hp), if_pos ha]]
    repeat' ((conv => whnf); first | refine RetC.mk ?_ | refine NzC.mk (by decide) ?_ | refine RngC.mk (by omega) (by omega) ?_ | refine IdxC.mk (by omega) (by omega) ?_ | refine hS.st 8 rfl (Nat.le_of_ble_eq_true rfl) rfl (fun w' hS => ?_) | refine hS.laX 8 rfl rfl ?_ | refine brD (fun _ => ?_) (fun _ => ?_) | refine brND (fun _ => ?_) (fun _ => ?_) | refine brN (fun _ => ?_) (fun _ => ?_) | refine brI (fun _ => ?_) (fun _ => ?_))
    exact ⟨rfl, (hS.keep 7).turns⟩
  (conv => whnf)
  (refine drawS tabOk mixed [] No [0, 1, 2, 3, 4, 5, 6, 7, 8, 9, 10, 11] (by kernel_rfl) ?_; rintro w1 rfl; replace hS := hS.drew)
  repeat' ((conv => whnf); first | refine hS.laXF 7 rfl rfl id ?_ | refine hS.ldF 7 rfl rfl id ?_ | refine hS.ldF 0 rfl rfl id ?_)
  refine (rfind_ok _ _ _ _ _ (hS.get 3 rfl)).mono ?_
  rintro v w4 ⟨rfl, hx⟩
  replace hS := hS.no hx
  refine KeepC.mk hx ?_
  (conv => whnf)
  refine hS.new (fun bf w' hbf hS => ?_)
  replace hS : St w (inF (rnodeH A N R)) w' (rnodeH A N R ++ [blk bp 36 (encPkt p), blk br 36 (encPkt noPkt), blk bf 57 (encFlow noFlow)]) := hS
  (conv => whnf)
  refine brD (fun hf => ?_) (fun hf => ?_)
  · rw [show N.inside p = (0, ⟨p.proto, 1, (flowAt N.tab (N.tab.find p.proto p.sa p.sp p.da p.dp)).port, p.da, p.dp, p.flags⟩, N.pass (N.tab.find p.proto p.sa p.sp p.da p.dp) p.flags true) by
      unfold NodeS.inside
      rw [if_neg (fun h => h hp), if_neg (by rw [ha]; decide), if_pos hf]]
    have herr := (flowErr_find hO.tab.len (fitF p.proto p.sa p.sp p.da p.dp) hf).1
    (conv => whnf)
    refine hS.ld 7 rfl rfl ?_
    (conv => whnf)
    refine (rpass_ok _ p.flags true hS.has.left hO (by omega) herr).mono ?_
    rintro v w5 ⟨rfl, ht⟩
    replace hS := St.call hS ht
    (conv => whnf)
    refine hS.st 9 rfl (Nat.le_of_ble_eq_true rfl) rfl (fun w' hS => ?_)
    (conv => whnf)
    refine hS.ld 9 rfl rfl ?_
    (conv => whnf)
    refine hS.st 7 rfl (Nat.le_of_ble_eq_true rfl) rfl (fun w' hS => ?_)
    (conv => whnf)
    refine hS.laX 7 rfl rfl ?_
    (conv => whnf)
    refine hS.st 8 rfl (Nat.le_of_ble_eq_true rfl) rfl (fun w' hS => ?_)
    (conv => whnf)
    refine hS.laX 8 rfl rfl ?_
    repeat' ((conv => whnf); first | refine RetC.mk ?_ | refine NzC.mk (by decide) ?_ | refine RngC.mk (by omega) (by omega) ?_ | refine IdxC.mk (by omega) (by omega) ?_ | refine brD (fun _ => ?_) (fun _ => ?_) | refine brND (fun _ => ?_) (fun _ => ?_) | refine brN (fun _ => ?_) (fun _ => ?_) | refine brI (fun _ => ?_) (fun _ => ?_))
    exact ⟨rfl, (hS.keep 7).turns⟩
  have hI : N.inside p = if (N.begin p).1.2 ≠ 0 then ((N.begin p).1.2, noPkt, (N.begin p).2) else (0, ⟨p.proto, 1, (flowAt (N.begin p).2.tab (N.begin p).1.1).port, p.da, p.dp, p.flags⟩, (N.begin p).2) := by
    unfold NodeS.inside
    rw [if_neg (fun h => h hp), if_neg (by rw [ha]; decide), if_neg hf]
  rw [hI]
  clear hI
  (conv => whnf)
  (refine drawS tabOk mixed [] No [0, 1, 2, 3, 4, 5, 6, 7, 8, 9, 10] (by kernel_rfl) ?_; rintro w1 rfl; replace hS := hS.drew)
  repeat' ((conv => whnf); first | refine hS.laXF 7 rfl rfl id ?_ | refine hS.ldF 7 rfl rfl id ?_ | refine hS.ldF 0 rfl rfl id ?_)
  refine (admitsOf_ok (hr.extN hS.ext hsrc) p.proto p.dp true).mono ?_
  rintro v w5 ⟨rfl, hx⟩
  replace hS := hS.no hx
  refine KeepC.mk hx ?_
  cases hA : admitsL p.proto p.dp true N.rules
  · rw [show N.begin p = ((0, 8), N) from if_pos hA]
    repeat' ((conv => whnf); first | refine RetC.mk ?_ | refine NzC.mk (by decide) ?_ | refine RngC.mk (by omega) (by omega) ?_ | refine IdxC.mk (by omega) (by omega) ?_ | refine hS.st 8 rfl (Nat.le_of_ble_eq_true rfl) rfl (fun w' hS => ?_) | refine hS.laX 8 rfl rfl ?_ | refine brD (fun _ => ?_) (fun _ => ?_) | refine brND (fun _ => ?_) (fun _ => ?_) | refine brN (fun _ => ?_) (fun _ => ?_) | refine brI (fun _ => ?_) (fun _ => ?_))
    exact ⟨rfl, (hS.keep 7).turns⟩
  have hO2 := hO.begin p
  have hin := begin_in hO p
  have hb : N.begin p = _ := if_neg (by rw [hA]; decide)
  rw [hb] at hO2 hin ⊢
  clear hb
  (conv => whnf)
  refine hS.ld 7 rfl rfl ?_
  (conv => whnf)
  refine hS.ld 7 rfl rfl ?_
  (conv => whnf)
  refine (beginOf_ok _ _ _).mono ?_
  rintro v w6 ⟨rfl, rfl⟩
  generalize beginS p.proto p.flags = r at hO2 hin ⊢
  obtain ⟨s, kk⟩ := r
  by_cases hkk : kk = 0
  case neg =>
    rw [if_pos (show ((s, kk) : Int × Nat).2 ≠ 0 from hkk), if_pos (show (((0, ((s, kk) : Int × Nat).2), N) : (Int × Nat) × NodeS).1.2 ≠ 0 from hkk)]
    (conv => whnf)
    refine brD (fun _ => ?_) (fun h => absurd (show (kk : Int) > 0 by omega) h)
    repeat' ((conv => whnf); first | refine RetC.mk ?_ | refine NzC.mk (by decide) ?_ | refine RngC.mk (by omega) (by omega) ?_ | refine IdxC.mk (by omega) (by omega) ?_ | refine hS.st 8 rfl (Nat.le_of_ble_eq_true rfl) rfl (fun w' hS => ?_) | refine hS.laX 8 rfl rfl ?_ | refine brD (fun _ => ?_) (fun _ => ?_) | refine brND (fun _ => ?_) (fun _ => ?_) | refine brN (fun _ => ?_) (fun _ => ?_) | refine brI (fun _ => ?_) (fun _ => ?_))
    exact ⟨rfl, (hS.keep 7).turns⟩
  subst hkk
  rw [if_neg (show ¬ ((s, 0) : Int × Nat).2 ≠ 0 by simp)] at hO2 hin ⊢
  dsimp only at hO2 hin ⊢
  have htb := timeS_bound p.proto s
  have hn1 := St.neF hS 0 3 rfl rfl (by decide) (c := A.tg) (by simp [refT])
  have hn2 := St.neF hS 7 3 rfl rfl (by decide) (c := A.tg) (by simp [refT])
  (conv => whnf)
  (refine drawS tabOk mixed [] (fun b => b = A.tg) [0, 1, 2, 3, 4, 5, 6, 7, 8, 9, 10, 11, 12, 13, 14, 15, 16, 17, 18, 19, 20, 21, 22, 23, 24, 25] (by kernel_rfl) ?_; rintro w1 rfl; replace hS := hS.drew)
  have hK := hS.ref (fun b => b = A.tg)
  repeat' ((conv => whnf); first | refine hS.laXF 7 rfl rfl hn2 ?_ | refine hS.ldF 7 rfl rfl hn2 ?_ | refine hS.ldF 0 rfl rfl hn1 ?_)
  refine (timeOf_ok _ _ _).mono ?_
  rintro v w3 ⟨rfl, rfl⟩
  refine KeepC.mk hK ?_
  repeat' ((conv => whnf); first | refine RetC.mk ?_ | refine NzC.mk (by decide) ?_ | refine RngC.mk (by omega) (by omega) ?_ | refine IdxC.mk (by omega) (by omega) ?_ | refine brD (fun _ => ?_) (fun _ => ?_) | refine brND (fun _ => ?_) (fun _ => ?_) | refine brN (fun _ => ?_) (fun _ => ?_) | refine brI (fun _ => ?_) (fun _ => ?_))
  refine (radd_ok _ _ _ _ _ _ _ (hS.get 3 rfl) hO.tab (by omega) hlif).mono ?_
  rintro v w' ⟨rfl, hx, hT⟩
  refine KeepC.mk (hK.trans hx) ?_
  replace hS := hS.upd 3 rfl hx (fun d hd => by subst hd; simp [refT]) refT_local hT (fun d hd => .inl hd)
  clear hT hx hK
  generalize N.tab.add p.proto p.sa p.sp p.da p.dp s (N.now + timeS p.proto s) = r at hS hO2 hin ⊢
  obtain ⟨⟨k, kk⟩, T2⟩ := r
  by_cases hkk : kk = 0
  case neg =>
    rw [if_pos hkk]
    (conv => whnf)
    refine brD (fun _ => ?_) (fun h => absurd (show (kk : Int) > 0 by omega) h)
    repeat' ((conv => whnf); first | refine RetC.mk ?_ | refine NzC.mk (by decide) ?_ | refine RngC.mk (by omega) (by omega) ?_ | refine IdxC.mk (by omega) (by omega) ?_ | refine hS.st 8 rfl (Nat.le_of_ble_eq_true rfl) rfl (fun w' hS => ?_) | refine hS.laX 8 rfl rfl ?_ | refine brD (fun _ => ?_) (fun _ => ?_) | refine brND (fun _ => ?_) (fun _ => ?_) | refine brN (fun _ => ?_) (fun _ => ?_) | refine brI (fun _ => ?_) (fun _ => ?_))
    exact ⟨rfl, (hS.keep 7).turns⟩
  subst hkk
  obtain ⟨h0, h1⟩ := hin rfl
  dsimp only at hS hO2 h0 h1
  obtain ⟨c, hc, hcf⟩ := flowAt_in hO2 k h0 h1
  rw [if_neg (by simp)]
  dsimp only at hc hcf ⊢
  rw [← hcf]
  (conv => whnf)
  refine hS.ld 0 rfl rfl ?_
  (conv => whnf)
  refine ldc (refT_l (hS.get 3 rfl)) ?_
  (conv => whnf)
  refine IdxC.mk (by omega) (by omega) ?_
  (conv => whnf)
  have hca := refT_at (hS.get 3 rfl) hc
  refine ⟨encFlow c.f, rfl, by rw [Nat.zero_add]; exact hca.sub 2 rfl, ?_⟩
  clear hca
  (conv => whnf)
  refine hS.st 9 rfl (Nat.le_of_ble_eq_true rfl) rfl (fun w' hS => ?_)
  (conv => whnf)
  refine hS.ld 9 rfl rfl ?_
  (conv => whnf)
  refine hS.st 7 rfl (Nat.le_of_ble_eq_true rfl) rfl (fun w' hS => ?_)
  (conv => whnf)
  refine hS.laX 7 rfl rfl ?_
  (conv => whnf)
  refine hS.st 8 rfl (Nat.le_of_ble_eq_true rfl) rfl (fun w' hS => ?_)
  (conv => whnf)
  refine hS.laX 8 rfl rfl ?_
  repeat' ((conv => whnf); first | refine RetC.mk ?_ | refine NzC.mk (by decide) ?_ | refine RngC.mk (by omega) (by omega) ?_ | refine IdxC.mk (by omega) (by omega) ?_ | refine brD (fun _ => ?_) (fun _ => ?_) | refine brND (fun _ => ?_) (fun _ => ?_) | refine brN (fun _ => ?_) (fun _ => ?_) | refine brI (fun _ => ?_) (fun _ => ?_))
  exact ⟨rfl, (hS.keep 7).turns⟩
theorem routside_ok {m : Nat} (p : PktS) (hN : Has w (rnodeH A N R)) (hO : NOk m N) (hm : m + 1 ≤ 40000000) :
    CallC Tryz.prog 119 #[.pointer (some ⟨A.n, 0, none⟩), .agg (encPkt p).toArray] w fun v w' => v = .tuple #[.agg (encPkt (N.outside p).2.1).toArray, .int .i64 ((N.outside p).1 : Nat)] ∧ Turns w w' (rnodeH A N R) (rnodeH A (N.outside p).2.2 R) := by
  refine fn_intro tabOk Tryz.func119 (by kernel_rfl) rfl Tryz.ntmps119 (Nat.le_of_ble_eq_true rfl) ?_
  have hS := hN.start
  (conv => whnf)
  refine hS.new (fun bp w' hbp hS => ?_)
  (conv => whnf)
  refine hS.new (fun br w' hbr hS => ?_)
  replace hS : St w (inF (rnodeH A N R)) w' (rnodeH A N R ++ [blk bp 36 (encPkt p), blk br 36 (encPkt noPkt)]) := hS
  (conv => whnf)
  refine hS.laX 7 rfl rfl ?_
  (conv => whnf)
  refine (perror_ok p _).mono ?_
  rintro v w2 ⟨rfl, hx⟩
  replace hS := hS.no hx
  by_cases hp : p.err = 0
  case neg =>
    rw [show N.outside p = (p.err, noPkt, N) from if_pos hp]
    (conv => whnf)
    refine brD (fun _ => ?_) (fun h => absurd (show (p.err : Int) > 0 by omega) h)
    repeat' ((conv => whnf); first | refine RetC.mk ?_ | refine NzC.mk (by decide) ?_ | refine RngC.mk (by omega) (by omega) ?_ | refine IdxC.mk (by omega) (by omega) ?_ | refine hS.st 8 rfl (Nat.le_of_ble_eq_true rfl) rfl (fun w' hS => ?_) | refine hS.laX 8 rfl rfl ?_ | refine brD (fun _ => ?_) (fun _ => ?_) | refine brND (fun _ => ?_) (fun _ => ?_) | refine brN (fun _ => ?_) (fun _ => ?_) | refine brI (fun _ => ?_) (fun _ => ?_))
    exact ⟨rfl, (hS.keep 7).turns⟩
  rw [hp]
  (conv => whnf)
  refine hS.ld 0 rfl rfl ?_
  (conv => whnf)
  refine hS.ld 1 rfl (v := .bool N.role.active) rfl ?_
  cases ha : N.role.active
  · rw [show N.outside p = (9, noPkt, N) by unfold NodeS.outside; rw [if_neg (fun h => h hp), if_pos ha]]
    repeat' ((conv => whnf); first | refine RetC.mk ?_ | refine NzC.mk (by decide) ?_ | refine RngC.mk (by omega) (by omega) ?_ | refine IdxC.mk (by omega) (by omega) ?_ | refine hS.st 8 rfl (Nat.le_of_ble_eq_true rfl) rfl (fun w' hS => ?_) | refine hS.laX 8 rfl rfl ?_ | refine brD (fun _ => ?_) (fun _ => ?_) | refine brND (fun _ => ?_) (fun _ => ?_) | refine brN (fun _ => ?_) (fun _ => ?_) | refine brI (fun _ => ?_) (fun _ => ?_))
    exact ⟨rfl, (hS.keep 7).turns⟩
  (conv => whnf)
  refine hS.ld 7 rfl rfl ?_
  (conv => whnf)
  refine brND (fun hd => ?_) (fun hd => ?_)
  · rw [show N.outside p = (3, noPkt, N) by unfold NodeS.outside; rw [if_neg (fun h => h hp), if_neg (by rw [ha]; decide), if_pos hd]]
    repeat' ((conv => whnf); first | refine RetC.mk ?_ | refine NzC.mk (by decide) ?_ | refine RngC.mk (by omega) (by omega) ?_ | refine IdxC.mk (by omega) (by omega) ?_ | refine hS.st 8 rfl (Nat.le_of_ble_eq_true rfl) rfl (fun w' hS => ?_) | refine hS.laX 8 rfl rfl ?_ | refine brD (fun _ => ?_) (fun _ => ?_) | refine brND (fun _ => ?_) (fun _ => ?_) | refine brN (fun _ => ?_) (fun _ => ?_) | refine brI (fun _ => ?_) (fun _ => ?_))
    exact ⟨rfl, (hS.keep 7).turns⟩
  (conv => whnf)
  (refine drawS tabOk mixed [] No [0, 1, 2, 3, 4, 5, 6, 7, 8, 9, 10, 11, 12] (by kernel_rfl) ?_; rintro w1 rfl; replace hS := hS.drew)
  repeat' ((conv => whnf); first | refine hS.laXF 7 rfl rfl id ?_ | refine hS.ldF 7 rfl rfl id ?_ | refine hS.ldF 0 rfl rfl id ?_)
  refine (rback_ok _ _ _ _ (hS.get 3 rfl)).mono ?_
  rintro v w4 ⟨rfl, hx⟩
  replace hS := hS.no hx
  refine KeepC.mk hx ?_
  (conv => whnf)
  refine brD (fun hf => ?_) (fun hf => ?_)
  · rw [show N.outside p = (4, noPkt, N) by unfold NodeS.outside; rw [if_neg (fun h => h hp), if_neg (by rw [ha]; decide), if_neg (fun h => h hd), if_pos hf]]
    repeat' ((conv => whnf); first | refine RetC.mk ?_ | refine NzC.mk (by decide) ?_ | refine RngC.mk (by omega) (by omega) ?_ | refine IdxC.mk (by omega) (by omega) ?_ | refine hS.st 8 rfl (Nat.le_of_ble_eq_true rfl) rfl (fun w' hS => ?_) | refine hS.laX 8 rfl rfl ?_ | refine brD (fun _ => ?_) (fun _ => ?_) | refine brND (fun _ => ?_) (fun _ => ?_) | refine brN (fun _ => ?_) (fun _ => ?_) | refine brI (fun _ => ?_) (fun _ => ?_))
    exact ⟨rfl, (hS.keep 7).turns⟩
  rw [show N.outside p = (0, ⟨p.proto, p.sa, p.sp, (flowAt N.tab (N.tab.back p.proto p.dp p.sa p.sp)).ia, (flowAt N.tab (N.tab.back p.proto p.dp p.sa p.sp)).ip, p.flags⟩, N.pass (N.tab.back p.proto p.dp p.sa p.sp) p.flags false) by
    unfold NodeS.outside
    rw [if_neg (fun h => h hp), if_neg (by rw [ha]; decide), if_neg (fun h => h hd), if_neg hf]]
  have herr := (flowErr_find hO.tab.len (fitB p.proto p.dp p.sa p.sp) (Int.not_lt.1 hf)).1
  (conv => whnf)
  refine hS.ld 7 rfl rfl ?_
  (conv => whnf)
  refine (rpass_ok _ p.flags false hS.has.left hO (by omega) herr).mono ?_
  rintro v w5 ⟨rfl, ht⟩
  replace hS := St.call hS ht
  (conv => whnf)
  refine hS.st 7 rfl (Nat.le_of_ble_eq_true rfl) rfl (fun w' hS => ?_)
  (conv => whnf)
  refine hS.laX 7 rfl rfl ?_
  (conv => whnf)
  refine hS.st 8 rfl (Nat.le_of_ble_eq_true rfl) rfl (fun w' hS => ?_)
  (conv => whnf)
  refine hS.laX 8 rfl rfl ?_
  repeat' ((conv => whnf); first | refine RetC.mk ?_ | refine NzC.mk (by decide) ?_ | refine RngC.mk (by omega) (by omega) ?_ | refine IdxC.mk (by omega) (by omega) ?_ | refine brD (fun _ => ?_) (fun _ => ?_) | refine brND (fun _ => ?_) (fun _ => ?_) | refine brN (fun _ => ?_) (fun _ => ?_) | refine brI (fun _ => ?_) (fun _ => ?_))
  exact ⟨rfl, (hS.keep 7).turns⟩
end
end Go.Proofs.YtoaghhcjlfiflaaGreatDoor

/-
  The reference's role, walked: it does what package role does.
-/
namespace Go.Proofs.YtoaghhcjlfiflaaGreatDoor
open Go Ev

section
variable {w : World} {b : Nat} {r : RoleS}

theorem ref_tick (hb : Blk w b 178 (encRole r)) (hr : r.Ok) : CallC Tryz.prog 164 #[.pointer (some ⟨b, 0, none⟩)] w fun v w' => v = .bool r.tick.1 ∧ Ext (· = b) w w' ∧ Blk w' b 178 (encRole r.tick.2) := by
  have h1 := hr.s1
  have h0 := hr.s0
  refine fn_intro tabOk Tryz.func164 (by kernel_rfl) rfl Tryz.ntmps164 (Nat.le_of_ble_eq_true rfl) ?_
  have hS := (St.start w (· = b)).add (blk_local b _ _) hb (by simp [blk]; exact hb.lt) (by simp)
  (conv => whnf)
  refine hS.ld 0 rfl rfl ?_
  (conv => whnf)
  refine brI (fun ha => ?_) (fun ha => ?_)
  · repeat' ((conv => whnf); first | refine RetC.mk ?_ | refine NzC.mk (by decide) ?_ | refine RngC.mk (by omega) (by omega) ?_ | refine IdxC.mk (by omega) (by omega) ?_ | refine brD (fun _ => ?_) (fun _ => ?_) | refine brND (fun _ => ?_) (fun _ => ?_) | refine brN (fun _ => ?_) (fun _ => ?_) | refine brI (fun _ => ?_) (fun _ => ?_))
    have e : r.tick = (false, r) := by simp [RoleS.tick, ha]
    rw [e]
    exact ⟨rfl, hS.ext, hS.blk 0 rfl⟩
  · repeat' ((conv => whnf); first | refine RetC.mk ?_ | refine NzC.mk (by decide) ?_ | refine RngC.mk (by omega) (by omega) ?_ | refine IdxC.mk (by omega) (by omega) ?_ | refine hS.ld 0 rfl rfl ?_ | refine hS.st 0 rfl (Nat.le_of_ble_eq_true rfl) rfl (fun w' hS => ?_) | refine brD (fun _ => ?_) (fun _ => ?_) | refine brND (fun _ => ?_) (fun _ => ?_) | refine brN (fun _ => ?_) (fun _ => ?_) | refine brI (fun _ => ?_) (fun _ => ?_))
    have e : r.tick = (decide (r.silence + 1 > 9), { r with silence := r.silence + 1 }) := by simp [RoleS.tick, ha]
    rw [e]
    exact ⟨rfl, hS.ext, hS.blk 0 rfl⟩

theorem ref_next (hb : Blk w b 178 (encRole r)) (hr : r.Ok) : CallC Tryz.prog 165 #[.pointer (some ⟨b, 0, none⟩)] w fun v w' => v = .tuple #[.int .i64 r.next.1, .int .i64 r.next.2] ∧ w = w' := by
  have h1 := hr.e1
  have h0 := hr.e0
  have hn := hr.n0
  have e0 : w.cell? ⟨b, 0 + 0, none⟩ = some (.int .i64 r.node) := hb.cell _
  have e1 : w.cell? ⟨b, 0 + 1, none⟩ = some (.int .i64 r.epoch) := hb.cell _
  refine fn_intro tabOk Tryz.func165 (by kernel_rfl) rfl Tryz.ntmps165 (Nat.le_of_ble_eq_true rfl) ?_
  (conv => whnf)
  refine ⟨_, e1, ?_⟩
  (conv => whnf)
  refine RngC.mk (by omega) (by omega) ?_
  (conv => whnf)
  refine loopR tabOk (fun σ w' n => ∃ e, σ = [(4, .int .i64 e), (0, .pointer (some ⟨b, 0, none⟩))] ∧ w = w' ∧ ((e = r.epoch + 1 ∧ n = 1) ∨ (e = r.epoch + 1 + 1 ∧ n = 0 ∧ (r.epoch + 1).tmod 2 ≠ r.node)))
    (σ' := [(4, .int .i64 (r.epoch + 1)), (0, .pointer (some ⟨b, 0, none⟩))]) (n := 1) ⟨rfl, rfl, trivial⟩ ⟨_, rfl, rfl, .inl ⟨rfl, rfl⟩⟩ ?_
  rintro _ w1 n ⟨e, rfl, rfl, he⟩
  (conv => whnf)
  refine NzC.mk (by decide) ?_
  (conv => whnf)
  refine ⟨_, e0, ?_⟩
  (conv => whnf)
  refine brND (fun h3 => ?_) (fun h3 => ?_)
  · rcases he with ⟨rfl, rfl⟩ | ⟨rfl, rfl, h4⟩
    · (conv => whnf)
      refine RngC.mk (by omega) (by omega) ?_
      (conv => whnf)
      exact LoopE.mk ⟨_, [(4, .int .i64 _), (0, _)], Nat.zero_lt_one, ⟨rfl, rfl, trivial⟩, ⟨_, rfl, rfl, .inr ⟨rfl, rfl, h3⟩⟩⟩
    · exfalso
      rw [tmod2 (by omega)] at h3 h4
      omega
  · have hnx : r.next = if e > 1073741824 then (0, 2) else (e, 0) := by
      unfold RoleS.next
      dsimp only
      rcases he with ⟨rfl, rfl⟩ | ⟨rfl, rfl, h4⟩
      · have e2 : (if (r.epoch + 1).tmod 2 ≠ r.node then r.epoch + 1 + 1 else r.epoch + 1) = r.epoch + 1 := if_neg (fun h => h h3)
        rw [e2]
      · have e2 : (if (r.epoch + 1).tmod 2 ≠ r.node then r.epoch + 1 + 1 else r.epoch + 1) = r.epoch + 1 + 1 := if_pos h4
        rw [e2]
    rw [hnx]
    (conv => whnf)
    refine brD (fun h5 => ?_) (fun h5 => ?_)
    · repeat' ((conv => whnf); first | refine RetC.mk ?_ | refine NzC.mk (by decide) ?_ | refine RngC.mk (by omega) (by omega) ?_ | refine IdxC.mk (by omega) (by omega) ?_ | refine brD (fun _ => ?_) (fun _ => ?_) | refine brND (fun _ => ?_) (fun _ => ?_) | refine brN (fun _ => ?_) (fun _ => ?_) | refine brI (fun _ => ?_) (fun _ => ?_))
      rw [if_pos h5]
      exact ⟨rfl, rfl⟩
    · repeat' ((conv => whnf); first | refine RetC.mk ?_ | refine NzC.mk (by decide) ?_ | refine RngC.mk (by omega) (by omega) ?_ | refine IdxC.mk (by omega) (by omega) ?_ | refine brD (fun _ => ?_) (fun _ => ?_) | refine brND (fun _ => ?_) (fun _ => ?_) | refine brN (fun _ => ?_) (fun _ => ?_) | refine brI (fun _ => ?_) (fun _ => ?_))
      rw [if_neg h5]
      exact ⟨rfl, rfl⟩

theorem ref_claim (e : Int) (hb : Blk w b 178 (encRole r)) (hr : r.Ok) :
    CallC Tryz.prog 166 #[.pointer (some ⟨b, 0, none⟩), .int .i64 e] w fun v w' => v = .int .i64 (r.claim e).1 ∧ Ext (· = b) w w' ∧ Blk w' b 178 (encRole (r.claim e).2) := by
  refine fn_intro tabOk Tryz.func166 (by kernel_rfl) rfl Tryz.ntmps166 (Nat.le_of_ble_eq_true rfl) ?_
  have hS := (St.start w (· = b)).add (blk_local b _ _) hb (by simp [blk]; exact hb.lt) (by simp)
  (conv => whnf)
  refine hS.ld 0 rfl rfl ?_
  (conv => whnf)
  refine brI (fun ha => ?_) (fun ha => ?_)
  · repeat' ((conv => whnf); first | refine RetC.mk ?_ | refine NzC.mk (by decide) ?_ | refine RngC.mk (by omega) (by omega) ?_ | refine IdxC.mk (by omega) (by omega) ?_ | refine brD (fun _ => ?_) (fun _ => ?_) | refine brND (fun _ => ?_) (fun _ => ?_) | refine brN (fun _ => ?_) (fun _ => ?_) | refine brI (fun _ => ?_) (fun _ => ?_))
    rw [show r.claim e = (11, r) by simp [RoleS.claim, ha]]
    exact ⟨rfl, hS.ext, hS.blk 0 rfl⟩
  · (conv => whnf)
    refine (ref_next hb hr).mono ?_
    rintro v w' ⟨rfl, rfl⟩
    repeat' ((conv => whnf); first | refine RetC.mk ?_ | refine NzC.mk (by decide) ?_ | refine RngC.mk (by omega) (by omega) ?_ | refine IdxC.mk (by omega) (by omega) ?_ | refine hS.ld 0 rfl rfl ?_ | refine hS.st 0 rfl (Nat.le_of_ble_eq_true rfl) rfl (fun w' hS => ?_) | refine brD (fun _ => ?_) (fun _ => ?_) | refine brND (fun _ => ?_) (fun _ => ?_) | refine brN (fun _ => ?_) (fun _ => ?_) | refine brI (fun _ => ?_) (fun _ => ?_))
    all_goals have hB := hS.blk 0 rfl
    all_goals refine ⟨?_, hS.ext, hB.to ?_⟩
    all_goals clear hB hS hb
    all_goals unfold RoleS.claim; (try dsimp only [encRole])
    all_goals ((repeat' split) <;> first | rfl | (exfalso; omega) | (simp_all [over, cellsL]; done) | (simp_all [over, cellsL]; omega) | trace_state)
end

theorem RoleS.Ok.hear {r : RoleS} (h : r.Ok) (e : Int) : (r.hear e).2.Ok := by
  obtain ⟨n0, e0, e1, s0, s1⟩ := h
  unfold RoleS.hear
  dsimp only
  repeat' split
  all_goals (constructor <;> first | assumption | omega | (dsimp only; omega) | (simp_all; done) | trace_state)
theorem RoleS.Ok.claim {r : RoleS} (h : r.Ok) (e : Int) : (r.claim e).2.Ok := by
  have hk := h
  obtain ⟨n0, e0, e1, s0, s1⟩ := h
  unfold RoleS.claim
  repeat' split
  all_goals first | exact hk | skip
  rename_i h1 h2 h3
  have : 0 ≤ r.next.1 ∧ r.next.1 ≤ 1073741824 := by
    unfold RoleS.next
    dsimp only
    repeat' split
    all_goals (constructor <;> dsimp only <;> omega)
  simp only [ne_eq, Decidable.not_not] at h3
  exact ⟨n0, by show 0 ≤ e; omega, by show e ≤ _; omega, s0, s1⟩
theorem RoleS.hear_silence {r : RoleS} {k : Nat} (h : r.silence ≤ k) (e : Int) : (r.hear e).2.silence ≤ k := by
  unfold RoleS.hear
  dsimp only
  repeat' split
  all_goals first | assumption | (dsimp only; omega)
theorem RoleS.claim_silence {r : RoleS} {k : Nat} (h : r.silence ≤ k) (e : Int) : (r.claim e).2.silence ≤ k := by
  unfold RoleS.claim
  repeat' split
  all_goals exact h
theorem RoleS.claim_code {r : RoleS} (e : Int) : (r.claim e).1 < 12 := by
  have : r.next.2 < 12 := by
    unfold RoleS.next
    dsimp only
    repeat' split
    all_goals simp
  unfold RoleS.claim
  repeat' split
  all_goals first | exact this | (dsimp only; omega)
theorem RoleS.next_code {r : RoleS} : r.next.2 < 12 := by
  unfold RoleS.next
  dsimp only
  repeat' split
  all_goals simp
end Go.Proofs.YtoaghhcjlfiflaaGreatDoor

/-
  The reference's node, walked: a tick.
-/
namespace Go.Proofs.YtoaghhcjlfiflaaGreatDoor
open Go Ev
def rnoteH (a : Option Addr) (c : Nat) (x : Option Addr) (y : Nat) (l : List NoteS) : List Ent := [ownL 134 5 encNV (.slice a (l.map (noteV x y)).length c) (l.map (noteV x y)), ownL 59 10 encCell (.slice x (cellsOfN l).length y) (cellsOfN l)]
theorem Ev.St.updS {w0 w w' : World} {S T : Nat → Prop} {H : List Ent} (h : St w0 S w H) (i : Nat) {e e' f : Ent} (hi : H[i]? = some e) (k : Ext T w w') (hT : ∀ b, T b → b ∈ e.foot) (hl : e'.Local) (hh : e'.holds w') (hf : ∀ b ∈ e'.foot, b ∈ e.foot) (gl : f.Local) (gh : f.holds w') (gf : ∀ b ∈ f.foot, w.heap.size ≤ b ∧ b < w'.heap.size) : St w0 S w' (H.set i e' ++ [f]) := h.updMade i hi k hT hl hh hf gl gh gf
section
variable {w : World} {A : RNodeA} {N : NodeS} {R : RBy} {B : BytS}
theorem rtick_ok {m j : Nat} (hN : Has w (rnodeH A N R)) (hO : NOk m N) (hB : BOk B) (hA : Alike R B) (hR : ROk R j) (hj : j ≤ 50000000) (hm : m + 34 ≤ 40000000) :
    CallC Tryz.prog 114 #[.pointer (some ⟨A.n, 0, none⟩)] w fun v w' => ∃ a c x y R', v = .tuple #[.slice a ((N.tick B).2.1.map (noteV x y)).length c, .int .i64 ((N.tick B).1 : Nat)] ∧ Alike R' (N.tick B).2.2.2 ∧ ROk R' (j + 18) ∧ Turns w w' (rnodeH A N R) (rnodeH A (N.tick B).2.2.1 R' ++ rnoteH a c x y (N.tick B).2.1) := by
  have hn0 := hO.n0
  have hR2 : ROk R (j + 18) := ⟨hR.len, hR.bnd, by have := hR.lo; omega, hR.hi⟩
  have hA2 := hA
  refine fn_intro tabOk Tryz.func114 (by kernel_rfl) rfl Tryz.ntmps114 (Nat.le_of_ble_eq_true rfl) ?_
  have hS := hN.start
  (conv => whnf)
  refine hS.ld 0 rfl rfl ?_
  (conv => whnf)
  refine brD (fun hn => ?_) (fun hn => ?_)
  · rw [show N.tick B = (2, [], N, B) from if_pos hn]
    repeat' ((conv => whnf); first | refine RetC.mk ?_ | refine NzC.mk (by decide) ?_ | refine RngC.mk (by omega) (by omega) ?_ | refine IdxC.mk (by omega) (by omega) ?_ | refine brD (fun _ => ?_) (fun _ => ?_) | refine brND (fun _ => ?_) (fun _ => ?_) | refine brN (fun _ => ?_) (fun _ => ?_) | refine brI (fun _ => ?_) (fun _ => ?_))
    exact ⟨none, 0, none, 0, R, rfl, hA2, hR2, St.turns ((hS.addNil 134 5 encNV).addNil 59 10 encCell)⟩
  (conv => whnf)
  refine hS.ld 0 rfl rfl ?_
  (conv => whnf)
  refine RngC.mk (by omega) (by omega) ?_
  (conv => whnf)
  refine hS.st 0 rfl (Nat.le_of_ble_eq_true rfl) rfl (fun w' hS => ?_)
  replace hS : St w (inF (rnodeH A N R)) w' (rnodeH A { N with now := N.now + 1 } R) := hS
  have hn3 := St.neF hS 0 3 rfl rfl (by decide) (c := A.t) (by simp [refT])
  have hn4 := St.neF hS 0 3 rfl rfl (by decide) (c := A.tg) (by simp [refT])
  (conv => whnf)
  (refine drawS tabOk mixed [] (fun b => b = A.t ∨ b = A.tg) [0, 1, 2, 3, 4, 5, 6, 7, 8] (by kernel_rfl) ?_; rintro w1 rfl; replace hS := hS.drew)
  repeat' ((conv => whnf); first | refine hS.ldF 0 rfl rfl (fun h => h.elim hn3 hn4) ?_)
  refine (rexpire_ok (N.now + 1) (hS.get 3 rfl) hO.tab (by omega)).mono ?_
  rintro v w' ⟨⟨a', c', rfl⟩, hx, hT, _, _⟩
  refine KeepC.mk hx ?_
  replace hS := hS.upd 3 rfl hx (fun d hd => by simpa [refT] using hd) refT_local hT (fun d hd => .inl hd)
  clear hx hT
  (conv => whnf)
  refine hS.ld 0 rfl rfl ?_
  (conv => whnf)
  refine (ref_tick (hS.blk 1 rfl) hO.role).mono ?_
  rintro v w' ⟨rfl, hx, hB1⟩
  replace hS := hS.upd 1 rfl hx (fun c hc => by subst hc; exact List.mem_singleton.2 rfl) (blk_local _ _ _) hB1 (fun c hc => .inl hc)
  clear hx hB1
  replace hS : St w (inF (rnodeH A N R)) w' (rnodeH A N.step.2 R) := hS
  have hO1 := hO.step (by omega) (by omega)
  cases hs : N.role.tick.1
  · have hO2 := hO1
    rw [show N.tick B = (0, (N.step.2.notes false).1, (N.step.2.notes false).2, B) by
      unfold NodeS.tick
      rw [if_neg hn, if_neg (by rw [show N.step.1 = N.role.tick.1 from rfl, hs]; decide)]]
    generalize N.step.2 = N2 at hS hO2 ⊢
    (conv => whnf)
    refine hS.ld 0 rfl rfl ?_
    (conv => whnf)
    refine hS.ld 1 rfl (v := .bool (N2).role.active) rfl ?_
    replace hS := hS.addNil 134 5 encNV
    cases hact : (N2).role.active
    · have hbt : (N2).beat = false := by
        unfold NodeS.beat
        rw [hact]
        rfl
      repeat' ((conv => whnf); first | refine RetC.mk ?_ | refine NzC.mk (by decide) ?_ | refine RngC.mk (by omega) (by omega) ?_ | refine IdxC.mk (by omega) (by omega) ?_ | refine brD (fun _ => ?_) (fun _ => ?_) | refine brND (fun _ => ?_) (fun _ => ?_) | refine brN (fun _ => ?_) (fun _ => ?_) | refine brI (fun _ => ?_) (fun _ => ?_))
      rw [notes_ff hbt]
      exact ⟨none, 0, none, 0, (R), rfl, hA2, hR2, St.turns (hS.addNil 59 10 encCell)⟩
    · skip
      (conv => whnf)
      refine hS.ld 0 rfl rfl ?_
      (conv => whnf)
      refine NzC.mk (by decide) ?_
      (conv => whnf)
      refine brD (fun hz => ?_) (fun hz => ?_)
      · have hbt : (N2).beat = true := by
          unfold NodeS.beat
          rw [hact, decide_eq_true hz]
          rfl
        (conv => whnf)
        (refine drawS tabOk mixed [] No [0, 1, 2, 3, 4, 5, 6, 7, 8, 9, 10, 11, 12, 13, 14, 15, 16, 17, 18, 19, 20, 21, 22] (by kernel_rfl) ?_; rintro w1 rfl; replace hS := hS.drew)
        have hK := hS.ref No
        repeat' ((conv => whnf); first | refine hS.ldF 0 rfl rfl id ?_ | refine hS.ldF 2 rfl rfl id ?_ | refine hS.ldF 1 rfl rfl id ?_)
        refine hS.litX Tryz.underlying79 (sz := 5) (by kernel_rfl) (z := .agg (encNV noNV).toArray) (by kernel_rfl) rfl rfl (cs := encNV ⟨(N2).id, (N2).cell.li, (N2).role.epoch, true, none, 0, 0⟩) (by rfl) (fun b9 w3 hb9 hx hS => ?_)
        replace hK := hK.trans hx
        refine KeepC.mk hK ?_
        clear hx
        (conv => whnf)
        refine hS.appX codNote 7 (ys := [⟨(N2).id, (N2).cell.li, (N2).role.epoch, true, none, 0, 0⟩]) (G := fun _ => True) Tryz.underlying79 (bytes := 56) (by kernel_rfl) (z := .agg (encNV noNV).toArray) (by kernel_rfl) rfl rfl (Slc.of_blk codNote (hS.blk 8 rfl) rfl (by simp) (fun _ _ => trivial) rfl) (by unfold maxLen; decide) (by decide) (fun a1 c1 w4 hx hS => ?_)
        replace hK := hK.trans (hx.mono fun q h => by simp [Value.ownBlock] at h)
        refine KeepC.mk hK ?_
        clear hx hK
        replace hS := hS.keep 8
        replace hS : St w (inF (rnodeH A N R)) w4 (rnodeH A (N2) (R) ++ [ownL 134 5 encNV (.slice a1 1 c1) [⟨(N2).id, (N2).cell.li, (N2).role.epoch, true, none, 0, 0⟩]]) := hS
        (conv => whnf)
        refine brD (fun _ => ?_) (fun h => absurd hz h)
        (conv => whnf)
        have hn4 := St.neF hS 0 4 rfl rfl (by decide) (c := A.x) (by simp [refL])
        have hn5 := St.neF hS 0 4 rfl rfl (by decide) (c := A.xg) (by simp [refL])
        have hn8 : ¬ (Value.slice a1 1 c1).ownBlock = some A.n := fun h => hS.apartAt 0 7 rfl rfl (by decide) _ (List.mem_singleton.2 rfl) (by simp only [ownL, own]; rw [h]; simp)
        have hc4 := St.neF hS 2 4 rfl rfl (by decide) (c := A.x) (by simp [refL])
        have hc5 := St.neF hS 2 4 rfl rfl (by decide) (c := A.xg) (by simp [refL])
        have hc8 : ¬ (Value.slice a1 1 c1).ownBlock = some A.c := fun h => hS.apartAt 2 7 rfl rfl (by decide) _ (List.mem_singleton.2 rfl) (by simp only [ownL, own]; rw [h]; simp)
        have hr4 := St.neF hS 1 4 rfl rfl (by decide) (c := A.x) (by simp [refL])
        have hr5 := St.neF hS 1 4 rfl rfl (by decide) (c := A.xg) (by simp [refL])
        have hr8 : ¬ (Value.slice a1 1 c1).ownBlock = some A.r := fun h => hS.apartAt 1 7 rfl rfl (by decide) _ (List.mem_singleton.2 rfl) (by simp only [ownL, own]; rw [h]; simp)
        have hap : ∀ b ∈ [A.t, A.tg], ¬ (b = A.x ∨ b = A.xg) := fun b hb hx => hS.apartAt 3 4 rfl rfl (by decide) b (by simpa [refT] using hb) (by simpa [refL] using hx)
        (refine drawS tabOk mixed [] (fun b => b = A.x ∨ b = A.xg ∨ (Value.slice a1 1 c1).ownBlock = some b) [0, 1, 2, 3, 4, 5, 6, 7, 8, 9, 10, 11, 12, 13, 14, 15, 16, 17, 18, 19, 20, 21, 22, 23, 24, 25, 26, 27] (by kernel_rfl) ?_; rintro w1 rfl; replace hS := hS.drew)
        have hK := hS.ref (fun b => b = A.x ∨ b = A.xg ∨ (Value.slice a1 1 c1).ownBlock = some b)
        repeat' ((conv => whnf); first | refine hS.ldF 0 rfl rfl (fun h => h.elim hn4 fun h => h.elim hn5 hn8) ?_ | refine hS.ldF 2 rfl rfl (fun h => h.elim hc4 fun h => h.elim hc5 hc8) ?_ | refine hS.ldF 1 rfl rfl (fun h => h.elim hr4 fun h => h.elim hr5 hr8) ?_)
        refine (rlNext_ok (hS.get 3 rfl) (hS.get 4 rfl) hap hO2.tab hO2.told hO2.cur).mono ?_
        rintro v w' ⟨⟨x, y, rfl⟩, hx, hB, ho, hf⟩
        replace hS := hS.updMade 4 rfl hx (fun c hc => by simpa [refL] using hc) refL_local hB (fun c hc => hc) ownL_local ho (fun g hg => hf g (by simpa [ownL, own] using hg))
        replace hK := hK.trans (hx.mono fun b h => h.elim .inl fun h => .inr (.inl h))
        refine KeepC.mk hK ?_
        clear hx hB ho hf
        (conv => whnf)
        refine hS.litX Tryz.underlying79 (sz := 5) (by kernel_rfl) (z := .agg (encNV noNV).toArray) (by kernel_rfl) rfl rfl (cs := encNV ⟨(N2).id, (N2).cell.li, (N2).role.epoch, false, x, ((N2).tel.picks (N2).tab.cells).length, y⟩) (by rfl) (fun b9 w3 hb9 hx hS => ?_)
        replace hK := hK.trans hx.of_no
        refine KeepC.mk hK ?_
        clear hx
        (conv => whnf)
        refine hS.appX codNote 7 (ys := [⟨(N2).id, (N2).cell.li, (N2).role.epoch, false, x, ((N2).tel.picks (N2).tab.cells).length, y⟩]) (G := fun _ => True) Tryz.underlying79 (bytes := 56) (by kernel_rfl) (z := .agg (encNV noNV).toArray) (by kernel_rfl) rfl rfl (Slc.of_blk codNote (hS.blk 9 rfl) rfl (by simp) (fun _ _ => trivial) rfl) (by unfold maxLen; show 1 + 1 ≤ _; decide) (by show (1 + 1) * 56 ≤ _; decide) (fun a2 c2 w4 hx hS => ?_)
        replace hK := hK.trans (hx.mono fun q h => .inr (.inr h))
        refine KeepC.mk hK ?_
        clear hx hK
        replace hS := hS.keep 9
        repeat' ((conv => whnf); first | refine RetC.mk ?_ | refine NzC.mk (by decide) ?_ | refine RngC.mk (by omega) (by omega) ?_ | refine IdxC.mk (by omega) (by omega) ?_ | refine brD (fun _ => ?_) (fun _ => ?_) | refine brND (fun _ => ?_) (fun _ => ?_) | refine brN (fun _ => ?_) (fun _ => ?_) | refine brI (fun _ => ?_) (fun _ => ?_))
        rw [notes_t hbt]
        replace hS : St w (inF (rnodeH A N R)) w4 (rnodeH A { (N2) with tel := (N2).tel.next (N2).tab.cells } (R) ++ rnoteH a2 c2 x y [⟨(N2).id, (N2).cell.li, (N2).role.epoch, true, []⟩, ⟨(N2).id, (N2).cell.li, (N2).role.epoch, false, outC (N2).tab.cells ((N2).tel.picks (N2).tab.cells)⟩]) := by
          have hc : cellsOfN [⟨(N2).id, (N2).cell.li, (N2).role.epoch, true, []⟩, ⟨(N2).id, (N2).cell.li, (N2).role.epoch, false, outC (N2).tab.cells ((N2).tel.picks (N2).tab.cells)⟩] = outC (N2).tab.cells ((N2).tel.picks (N2).tab.cells) := by simp [cellsOfN]
          have hv : [(⟨(N2).id, (N2).cell.li, (N2).role.epoch, true, []⟩ : NoteS), ⟨(N2).id, (N2).cell.li, (N2).role.epoch, false, outC (N2).tab.cells ((N2).tel.picks (N2).tab.cells)⟩].map (noteV x y) = [⟨(N2).id, (N2).cell.li, (N2).role.epoch, true, none, 0, 0⟩, ⟨(N2).id, (N2).cell.li, (N2).role.epoch, false, x, ((N2).tel.picks (N2).tab.cells).length, y⟩] := by simp [noteV, outC_len]
          unfold rnoteH
          rw [hc, hv, outC_len]
          exact hS
        exact ⟨a2, c2, x, y, (R), rfl, hA2, hR2, St.turns hS⟩
      · have hbt : (N2).beat = false := by
          unfold NodeS.beat
          rw [decide_eq_false hz, Bool.and_false]
        (conv => whnf)
        refine brD (fun h => absurd h hz) (fun _ => ?_)
        repeat' ((conv => whnf); first | refine RetC.mk ?_ | refine NzC.mk (by decide) ?_ | refine RngC.mk (by omega) (by omega) ?_ | refine IdxC.mk (by omega) (by omega) ?_ | refine brD (fun _ => ?_) (fun _ => ?_) | refine brND (fun _ => ?_) (fun _ => ?_) | refine brN (fun _ => ?_) (fun _ => ?_) | refine brI (fun _ => ?_) (fun _ => ?_))
        rw [notes_ff hbt]
        exact ⟨none, 0, none, 0, (R), rfl, hA2, hR2, St.turns (hS.addNil 59 10 encCell)⟩
  have hs1 : N.step.1 = true := hs
  have ha := step_active hs1
  rw [show N.tick B = if (N.step.2.claim B).1.2 ≠ 0 then ((N.step.2.claim B).1.2, [], (N.step.2.claim B).2.1, (N.step.2.claim B).2.2) else (0, ((N.step.2.claim B).2.1.notes (N.step.2.claim B).1.1).1, ((N.step.2.claim B).2.1.notes (N.step.2.claim B).1.1).2, (N.step.2.claim B).2.2) by
    unfold NodeS.tick
    rw [if_neg hn, if_pos hs1]]
  have hO2 := hO1.claim ha B
  generalize hNS : N.step.2 = NS at hS hO1 hO2 ha ⊢
  clear hNS hs1 hs hn hn3 hn4
  (conv => whnf)
  refine hS.ld 0 rfl rfl ?_
  (conv => whnf)
  refine (ref_next (hS.blk 1 rfl) hO1.role).mono ?_
  rintro v w2 ⟨rfl, rfl⟩
  by_cases hnx : NS.role.next.2 = 0
  case neg =>
    rw [show NS.claim B = ((false, 0), NS, B) from if_pos hnx] at hO2 ⊢
    rw [if_neg (show ¬ (((false, 0), NS, B) : (Bool × Nat) × NodeS × BytS).1.2 ≠ 0 by simp)]
    dsimp only at hO2 ⊢
    (conv => whnf)
    refine brD (fun h => absurd (by omega) hnx) (fun _ => ?_)
    (conv => whnf)
    refine hS.ld 0 rfl rfl ?_
    (conv => whnf)
    refine hS.ld 1 rfl (v := .bool (NS).role.active) rfl ?_
    replace hS := hS.addNil 134 5 encNV
    cases hact : (NS).role.active
    · have hbt : (NS).beat = false := by
        unfold NodeS.beat
        rw [hact]
        rfl
      repeat' ((conv => whnf); first | refine RetC.mk ?_ | refine NzC.mk (by decide) ?_ | refine RngC.mk (by omega) (by omega) ?_ | refine IdxC.mk (by omega) (by omega) ?_ | refine brD (fun _ => ?_) (fun _ => ?_) | refine brND (fun _ => ?_) (fun _ => ?_) | refine brN (fun _ => ?_) (fun _ => ?_) | refine brI (fun _ => ?_) (fun _ => ?_))
      rw [notes_ff hbt]
      exact ⟨none, 0, none, 0, (R), rfl, hA2, hR2, St.turns (hS.addNil 59 10 encCell)⟩
    · skip
      (conv => whnf)
      refine hS.ld 0 rfl rfl ?_
      (conv => whnf)
      refine NzC.mk (by decide) ?_
      (conv => whnf)
      refine brD (fun hz => ?_) (fun hz => ?_)
      · have hbt : (NS).beat = true := by
          unfold NodeS.beat
          rw [hact, decide_eq_true hz]
          rfl
        (conv => whnf)
        (refine drawS tabOk mixed [] No [0, 1, 2, 3, 4, 5, 6, 7, 8, 9, 10, 11, 12, 13, 14, 15, 16, 17, 18, 19, 20, 21, 22] (by kernel_rfl) ?_; rintro w1 rfl; replace hS := hS.drew)
        have hK := hS.ref No
        repeat' ((conv => whnf); first | refine hS.ldF 0 rfl rfl id ?_ | refine hS.ldF 2 rfl rfl id ?_ | refine hS.ldF 1 rfl rfl id ?_)
        refine hS.litX Tryz.underlying79 (sz := 5) (by kernel_rfl) (z := .agg (encNV noNV).toArray) (by kernel_rfl) rfl rfl (cs := encNV ⟨(NS).id, (NS).cell.li, (NS).role.epoch, true, none, 0, 0⟩) (by rfl) (fun b9 w3 hb9 hx hS => ?_)
        replace hK := hK.trans hx
        refine KeepC.mk hK ?_
        clear hx
        (conv => whnf)
        refine hS.appX codNote 7 (ys := [⟨(NS).id, (NS).cell.li, (NS).role.epoch, true, none, 0, 0⟩]) (G := fun _ => True) Tryz.underlying79 (bytes := 56) (by kernel_rfl) (z := .agg (encNV noNV).toArray) (by kernel_rfl) rfl rfl (Slc.of_blk codNote (hS.blk 8 rfl) rfl (by simp) (fun _ _ => trivial) rfl) (by unfold maxLen; decide) (by decide) (fun a1 c1 w4 hx hS => ?_)
        replace hK := hK.trans (hx.mono fun q h => by simp [Value.ownBlock] at h)
        refine KeepC.mk hK ?_
        clear hx hK
        replace hS := hS.keep 8
        replace hS : St w (inF (rnodeH A N R)) w4 (rnodeH A (NS) (R) ++ [ownL 134 5 encNV (.slice a1 1 c1) [⟨(NS).id, (NS).cell.li, (NS).role.epoch, true, none, 0, 0⟩]]) := hS
        (conv => whnf)
        refine brD (fun _ => ?_) (fun h => absurd hz h)
        (conv => whnf)
        have hn4 := St.neF hS 0 4 rfl rfl (by decide) (c := A.x) (by simp [refL])
        have hn5 := St.neF hS 0 4 rfl rfl (by decide) (c := A.xg) (by simp [refL])
        have hn8 : ¬ (Value.slice a1 1 c1).ownBlock = some A.n := fun h => hS.apartAt 0 7 rfl rfl (by decide) _ (List.mem_singleton.2 rfl) (by simp only [ownL, own]; rw [h]; simp)
        have hc4 := St.neF hS 2 4 rfl rfl (by decide) (c := A.x) (by simp [refL])
        have hc5 := St.neF hS 2 4 rfl rfl (by decide) (c := A.xg) (by simp [refL])
        have hc8 : ¬ (Value.slice a1 1 c1).ownBlock = some A.c := fun h => hS.apartAt 2 7 rfl rfl (by decide) _ (List.mem_singleton.2 rfl) (by simp only [ownL, own]; rw [h]; simp)
        have hr4 := St.neF hS 1 4 rfl rfl (by decide) (c := A.x) (by simp [refL])
        have hr5 := St.neF hS 1 4 rfl rfl (by decide) (c := A.xg) (by simp [refL])
        have hr8 : ¬ (Value.slice a1 1 c1).ownBlock = some A.r := fun h => hS.apartAt 1 7 rfl rfl (by decide) _ (List.mem_singleton.2 rfl) (by simp only [ownL, own]; rw [h]; simp)
        have hap : ∀ b ∈ [A.t, A.tg], ¬ (b = A.x ∨ b = A.xg) := fun b hb hx => hS.apartAt 3 4 rfl rfl (by decide) b (by simpa [refT] using hb) (by simpa [refL] using hx)
        (refine drawS tabOk mixed [] (fun b => b = A.x ∨ b = A.xg ∨ (Value.slice a1 1 c1).ownBlock = some b) [0, 1, 2, 3, 4, 5, 6, 7, 8, 9, 10, 11, 12, 13, 14, 15, 16, 17, 18, 19, 20, 21, 22, 23, 24, 25, 26, 27] (by kernel_rfl) ?_; rintro w1 rfl; replace hS := hS.drew)
        have hK := hS.ref (fun b => b = A.x ∨ b = A.xg ∨ (Value.slice a1 1 c1).ownBlock = some b)
        repeat' ((conv => whnf); first | refine hS.ldF 0 rfl rfl (fun h => h.elim hn4 fun h => h.elim hn5 hn8) ?_ | refine hS.ldF 2 rfl rfl (fun h => h.elim hc4 fun h => h.elim hc5 hc8) ?_ | refine hS.ldF 1 rfl rfl (fun h => h.elim hr4 fun h => h.elim hr5 hr8) ?_)
        refine (rlNext_ok (hS.get 3 rfl) (hS.get 4 rfl) hap hO2.tab hO2.told hO2.cur).mono ?_
        rintro v w' ⟨⟨x, y, rfl⟩, hx, hB, ho, hf⟩
        replace hS := hS.updMade 4 rfl hx (fun c hc => by simpa [refL] using hc) refL_local hB (fun c hc => hc) ownL_local ho (fun g hg => hf g (by simpa [ownL, own] using hg))
        replace hK := hK.trans (hx.mono fun b h => h.elim .inl fun h => .inr (.inl h))
        refine KeepC.mk hK ?_
        clear hx hB ho hf
        (conv => whnf)
        refine hS.litX Tryz.underlying79 (sz := 5) (by kernel_rfl) (z := .agg (encNV noNV).toArray) (by kernel_rfl) rfl rfl (cs := encNV ⟨(NS).id, (NS).cell.li, (NS).role.epoch, false, x, ((NS).tel.picks (NS).tab.cells).length, y⟩) (by rfl) (fun b9 w3 hb9 hx hS => ?_)
        replace hK := hK.trans hx.of_no
        refine KeepC.mk hK ?_
        clear hx
        (conv => whnf)
        refine hS.appX codNote 7 (ys := [⟨(NS).id, (NS).cell.li, (NS).role.epoch, false, x, ((NS).tel.picks (NS).tab.cells).length, y⟩]) (G := fun _ => True) Tryz.underlying79 (bytes := 56) (by kernel_rfl) (z := .agg (encNV noNV).toArray) (by kernel_rfl) rfl rfl (Slc.of_blk codNote (hS.blk 9 rfl) rfl (by simp) (fun _ _ => trivial) rfl) (by unfold maxLen; show 1 + 1 ≤ _; decide) (by show (1 + 1) * 56 ≤ _; decide) (fun a2 c2 w4 hx hS => ?_)
        replace hK := hK.trans (hx.mono fun q h => .inr (.inr h))
        refine KeepC.mk hK ?_
        clear hx hK
        replace hS := hS.keep 9
        repeat' ((conv => whnf); first | refine RetC.mk ?_ | refine NzC.mk (by decide) ?_ | refine RngC.mk (by omega) (by omega) ?_ | refine IdxC.mk (by omega) (by omega) ?_ | refine brD (fun _ => ?_) (fun _ => ?_) | refine brND (fun _ => ?_) (fun _ => ?_) | refine brN (fun _ => ?_) (fun _ => ?_) | refine brI (fun _ => ?_) (fun _ => ?_))
        rw [notes_t hbt]
        replace hS : St w (inF (rnodeH A N R)) w4 (rnodeH A { (NS) with tel := (NS).tel.next (NS).tab.cells } (R) ++ rnoteH a2 c2 x y [⟨(NS).id, (NS).cell.li, (NS).role.epoch, true, []⟩, ⟨(NS).id, (NS).cell.li, (NS).role.epoch, false, outC (NS).tab.cells ((NS).tel.picks (NS).tab.cells)⟩]) := by
          have hc : cellsOfN [⟨(NS).id, (NS).cell.li, (NS).role.epoch, true, []⟩, ⟨(NS).id, (NS).cell.li, (NS).role.epoch, false, outC (NS).tab.cells ((NS).tel.picks (NS).tab.cells)⟩] = outC (NS).tab.cells ((NS).tel.picks (NS).tab.cells) := by simp [cellsOfN]
          have hv : [(⟨(NS).id, (NS).cell.li, (NS).role.epoch, true, []⟩ : NoteS), ⟨(NS).id, (NS).cell.li, (NS).role.epoch, false, outC (NS).tab.cells ((NS).tel.picks (NS).tab.cells)⟩].map (noteV x y) = [⟨(NS).id, (NS).cell.li, (NS).role.epoch, true, none, 0, 0⟩, ⟨(NS).id, (NS).cell.li, (NS).role.epoch, false, x, ((NS).tel.picks (NS).tab.cells).length, y⟩] := by simp [noteV, outC_len]
          unfold rnoteH
          rw [hc, hv, outC_len]
          exact hS
        exact ⟨a2, c2, x, y, (R), rfl, hA2, hR2, St.turns hS⟩
      · have hbt : (NS).beat = false := by
          unfold NodeS.beat
          rw [decide_eq_false hz, Bool.and_false]
        (conv => whnf)
        refine brD (fun h => absurd h hz) (fun _ => ?_)
        repeat' ((conv => whnf); first | refine RetC.mk ?_ | refine NzC.mk (by decide) ?_ | refine RngC.mk (by omega) (by omega) ?_ | refine IdxC.mk (by omega) (by omega) ?_ | refine brD (fun _ => ?_) (fun _ => ?_) | refine brND (fun _ => ?_) (fun _ => ?_) | refine brN (fun _ => ?_) (fun _ => ?_) | refine brI (fun _ => ?_) (fun _ => ?_))
        rw [notes_ff hbt]
        exact ⟨none, 0, none, 0, (R), rfl, hA2, hR2, St.turns (hS.addNil 59 10 encCell)⟩
  have hcl := RoleS.claim_next ha hnx
  have hpos := RoleS.next_pos hO1.role hnx
  rw [hnx]
  have hn1 := hS.ne 0 2 rfl rfl (by decide)
  have hn2 := hS.ne 0 6 rfl rfl (by decide)
  (conv => whnf)
  (refine drawS tabOk mixed [11] (fun b => b = A.b ∨ b = A.c) [0, 1, 2, 3, 4, 5, 6, 7, 8, 9, 10, 11, 12, 13] (by kernel_rfl) ?_; rintro w1 rfl; replace hS := hS.drew)
  have hK := hS.ref (fun b => b = A.b ∨ b = A.c)
  repeat' ((conv => whnf); first | refine hS.ldF 0 rfl rfl (fun h => h.elim hn2 hn1) ?_ | (refine hS.ld 2 rfl rfl ?_; refine KeepC.mk hK ?_))
  refine (rcput_ok NS.role.next.1 NS.cell.li (hS.blk 2 rfl) (hS.blk 6 rfl) hA hB hR hj hO1.num).mono ?_
  rintro v w4 ⟨rfl, hx, R', hA', hR', hB1, hC1⟩
  have hs0 := hS.sel [6, 2, 0, 1, 3, 4, 5] (by decide)
  have hs1 := (Ev.St.upd2 hs0 hx (by simp [blk]) (blk_local _ _ _) hB1 rfl (blk_local _ _ _) hC1 rfl).sel [2, 3, 1, 4, 5, 6, 0] (by decide)
  refine KeepC.mk (hK.trans hx) ?_
  clear hS hs0 hB1 hC1 hx hK hA2 hR2 hA
  have hA2 := hA'
  have hR2 := hR'
  clear hA' hR'
  by_cases hp : (NS.cell.put B NS.role.next.1 NS.cell.li).1 = 0
  case neg =>
    rw [show NS.claim B = ((false, (NS.cell.put B NS.role.next.1 NS.cell.li).1), { NS with cell := (NS.cell.put B NS.role.next.1 NS.cell.li).2.2 }, (NS.cell.put B NS.role.next.1 NS.cell.li).2.1) by
      unfold NodeS.claim
      rw [if_neg (fun h => h hnx), if_pos hp]]
    rw [if_pos (show (((false, (NS.cell.put B NS.role.next.1 NS.cell.li).1), { NS with cell := (NS.cell.put B NS.role.next.1 NS.cell.li).2.2 }, (NS.cell.put B NS.role.next.1 NS.cell.li).2.1) : (Bool × Nat) × NodeS × BytS).1.2 ≠ 0 from hp)]
    (conv => whnf)
    refine brD (fun _ => ?_) (fun h => absurd (show ((NS.cell.put B NS.role.next.1 NS.cell.li).1 : Int) > 0 by omega) h)
    repeat' ((conv => whnf); first | refine RetC.mk ?_ | refine NzC.mk (by decide) ?_ | refine RngC.mk (by omega) (by omega) ?_ | refine IdxC.mk (by omega) (by omega) ?_ | refine brD (fun _ => ?_) (fun _ => ?_) | refine brND (fun _ => ?_) (fun _ => ?_) | refine brN (fun _ => ?_) (fun _ => ?_) | refine brI (fun _ => ?_) (fun _ => ?_))
    exact ⟨none, 0, none, 0, R', rfl, hA2, hR2, St.turns ((Ev.St.addNil hs1 134 5 encNV).addNil 59 10 encCell)⟩
  have hcl2 : NS.claim B = ((true, 0), { NS with cell := (NS.cell.put B NS.role.next.1 NS.cell.li).2.2, role := (NS.role.claim NS.role.next.1).2, tab := putAll NS.now NS.tab (flowsOf NS.mir.cells) }, (NS.cell.put B NS.role.next.1 NS.cell.li).2.1) := by
    unfold NodeS.claim
    rw [if_neg (fun h => h hnx), if_neg (fun h => h hp)]
  rw [hcl2] at hO2 ⊢
  clear hcl2
  rw [if_neg (show ¬ (((true, 0), { NS with cell := (NS.cell.put B NS.role.next.1 NS.cell.li).2.2, role := (NS.role.claim NS.role.next.1).2, tab := putAll NS.now NS.tab (flowsOf NS.mir.cells) }, (NS.cell.put B NS.role.next.1 NS.cell.li).2.1) : (Bool × Nat) × NodeS × BytS).1.2 ≠ 0 by simp)]
  dsimp only at hO2 ⊢
  rw [hp]
  generalize (NS.cell.put B NS.role.next.1 NS.cell.li).2 = BC at hs1 hO2 hA2 ⊢
  obtain ⟨B2, C2⟩ := BC
  have hS : St w (inF (rnodeH A N R)) w4 (rnodeH A { NS with cell := C2 } R') := hs1
  clear hs1
  dsimp only at hO2 hA2 ⊢
  (conv => whnf)
  refine hS.ld 0 rfl rfl ?_
  (conv => whnf)
  refine (ref_claim NS.role.next.1 (hS.blk 1 rfl) hO1.role).mono ?_
  rintro v w' ⟨rfl, hx, hB1⟩
  replace hS := hS.upd 1 rfl hx (fun c hc => by subst hc; exact List.mem_singleton.2 rfl) (blk_local _ _ _) hB1 (fun c hc => .inl hc)
  clear hx hB1
  replace hS : St w (inF (rnodeH A N R)) w' (rnodeH A { NS with cell := C2, role := (NS.role.claim NS.role.next.1).2 } R') := hS
  (conv => whnf)
  refine hS.ld 0 rfl rfl ?_
  (conv => whnf)
  refine ldc ((hS.get 5 rfl).2.1.cell 1) ?_
  have hml := hO1.mir
  have hsl : Slc w' 10 encCell (fun _ => True) (some ⟨A.mg, 0, none⟩) 32 NS.mir.cells := ownL_slc (G := fun _ => True) codCell (hS.get 5 rfl).2.2 fun _ _ => trivial
  (conv => whnf)
  refine (flowsOf_ok hsl (by decide)).mono ?_
  rintro v w' ⟨a, c, rfl, hx, ho, hf⟩
  replace hS := hS.made hx ownL_local ho (fun g hg => hf g (by simpa [ownL, own] using hg))
  clear hx ho hf hsl
  have hlen := flowsOf_len NS.mir.cells
  rw [hml] at hlen
  generalize flowsOf NS.mir.cells = l at hS hlen hO2 ⊢
  generalize (NS.role.claim NS.role.next.1).2 = r2 at hS hO2 ⊢
  have hn0 := hO1.n0
  have hn9 := hO1.n1
  (conv => whnf)
  refine loopR tabOk (fun σ w' q => ∃ k : Nat, σ = [(10, .int .i64 k), (9, .slice a l.length c), (4, .bool true), (0, .pointer (some ⟨A.n, 0, none⟩))] ∧ q = l.length - k ∧ k ≤ l.length ∧ St w (inF (rnodeH A N R)) w' (rnodeH A { NS with cell := C2, role := r2, tab := putAll NS.now NS.tab (l.take k) } R' ++ [ownL 57 8 encFlow (.slice a l.length c) l]))
    (σ' := [(10, .int .i64 ((0 : Nat) : Int)), (9, .slice a l.length c), (4, .bool true), (0, .pointer (some ⟨A.n, 0, none⟩))]) (n := l.length) ⟨rfl, rfl, rfl, rfl, trivial⟩ ⟨0, rfl, rfl, Nat.zero_le _, hS⟩ ?_
  clear hS
  rintro _ w1 q' ⟨k, rfl, rfl, hk, hS⟩
  (conv => whnf)
  refine brD (fun h3 => ?_) (fun h3 => ?_)
  · obtain ⟨b0, o0, x, hxk, _, rfl, hb0, hc⟩ := (ownL_slc (G := fun _ => True) codFlow (hS.get 7 rfl) (fun _ _ => trivial)).at (k := k) (by omega)
    have hstep := putAll_step NS.now NS.tab hxk
    have hTk := putAll_ok NS.now (l.take k) hO1.tab
    have hlk : (l.take k).length ≤ 32 := by rw [List.length_take]; omega
    generalize putAll NS.now NS.tab (l.take k) = T at hS hstep hTk
    (conv => whnf)
    refine IdxC.mk (by omega) (by omega) ?_
    (conv => whnf)
    refine ⟨encFlow x, rfl, hc, ?_⟩
    (conv => whnf)
    refine hS.new (fun bf w' hbf hS => ?_)
    (conv => whnf)
    refine hS.st 8 rfl (Nat.le_of_ble_eq_true rfl) rfl (fun w' hS => ?_)
    replace hS : St w (inF (rnodeH A N R)) w' (rnodeH A { NS with cell := C2, role := r2, tab := T } R' ++ [ownL 57 8 encFlow (.slice (some ⟨b0, o0, none⟩) l.length c) l, blk bf 57 (encFlow x)]) := hS
    have hf1 := hS.ne 0 8 rfl rfl (by decide)
    have hf3 := St.neF hS 8 3 rfl rfl (by decide) (c := A.tg) (by simp [refT])
    have hf4 := St.neF hS 0 3 rfl rfl (by decide) (c := A.tg) (by simp [refT])
    have htb := timeS_bound x.proto x.state
    (conv => whnf)
    refine drawI tabOk mixed [] (fun w1 w' => Ext (· = bf) w1 w' ∧ ∃ y, Blk w' bf 57 (encFlow { x with til := y })) [0, 1, 2, 3, 4, 5, 6, 7, 8, 9, 10, 11] (by kernel_rfl) ?_
    rintro w1 rfl
    replace hS := hS.drew
    refine ⟨⟨Ext.refl _ _, x.til, hS.blk 8 rfl⟩, ?_⟩
    have hK := hS.ref (· = bf)
    (conv => whnf)
    refine LdF.imp (fun _ h => h.1) (hS.ldF 0 rfl rfl hf1 ?_)
    (conv => whnf)
    refine ⟨.int .i64 x.proto, fun w' h => by obtain ⟨_, y, h⟩ := h; rw [h.cell]; rfl, ?_⟩
    (conv => whnf)
    refine ⟨.int .i64 x.state, fun w' h => by obtain ⟨_, y, h⟩ := h; rw [h.cell]; rfl, ?_⟩
    (conv => whnf)
    refine (timeOf_ok _ _ _).mono ?_
    rintro v w' ⟨rfl, rfl⟩
    refine KeepC.mk ⟨hK, x.til, hS.blk 8 rfl⟩ ?_
    (conv => whnf)
    refine RngC.mk (by dsimp only; omega) (by dsimp only; omega) ?_
    (conv => whnf)
    refine hS.stK hK 8 rfl (Nat.le_of_ble_eq_true rfl) rfl rfl (fun w' hK hS => KeepC.mk ⟨hK, NS.now + timeS x.proto x.state, hS.blk 8 rfl⟩ ?_)
    clear hK
    (conv => whnf)
    (refine drawS tabOk mixed [] (fun b => b = A.tg) [0, 1, 2, 3, 4, 5] (by kernel_rfl) ?_; rintro w1 rfl; replace hS := hS.drew)
    repeat' ((conv => whnf); first | refine hS.laXF 8 rfl rfl hf3 ?_ | refine hS.ldF 0 rfl rfl hf4 ?_)
    refine (rput_ok { x with til := NS.now + timeS x.proto x.state } (hS.get 3 rfl) hTk (by omega)).mono ?_
    rintro v w' ⟨rfl, hx, hT⟩
    refine KeepC.mk hx ?_
    replace hS := hS.upd 3 rfl hx (fun d hd => by subst hd; simp [refT]) refT_local hT (fun d hd => .inl hd)
    rw [← hstep] at hS
    (conv => whnf)
    refine RngC.mk (by omega) (by omega) ?_
    (conv => whnf)
    refine LoopE.mk ⟨_, [(10, .int .i64 ((k + 1 : Nat) : Int)), (9, _), (4, _), (0, _)], ?_, ⟨rfl, rfl, rfl, rfl, trivial⟩, ⟨k + 1, rfl, rfl, by omega, hS.keep 8⟩⟩
    omega
  obtain rfl : k = l.length := by omega
  rw [List.take_length] at hS
  replace hS := hS.keep 7
  replace hS : St w (inF (rnodeH A N R)) w1 (rnodeH A { NS with cell := C2, role := r2, tab := putAll NS.now NS.tab l } R') := hS
  generalize hN3 : ({ NS with cell := C2, role := r2, tab := putAll NS.now NS.tab l } : NodeS) = N3 at hS hO2 ⊢
  clear hN3
  (conv => whnf)
  refine hS.ld 0 rfl rfl ?_
  (conv => whnf)
  refine hS.ld 1 rfl (v := .bool (N3).role.active) rfl ?_
  replace hS := hS.addNil 134 5 encNV
  cases hact : (N3).role.active
  · have hbt : (N3).beat = false := by
      unfold NodeS.beat
      rw [hact]
      rfl
    (conv => whnf)
    (refine drawS tabOk mixed [] No [0, 1, 2, 3, 4, 5, 6, 7, 8, 9, 10, 11, 12, 13, 14, 15, 16, 17, 18, 19, 20, 21, 22] (by kernel_rfl) ?_; rintro w1 rfl; replace hS := hS.drew)
    have hK := hS.ref No
    repeat' ((conv => whnf); first | refine hS.ldF 0 rfl rfl id ?_ | refine hS.ldF 2 rfl rfl id ?_ | refine hS.ldF 1 rfl rfl id ?_)
    refine hS.litX Tryz.underlying79 (sz := 5) (by kernel_rfl) (z := .agg (encNV noNV).toArray) (by kernel_rfl) rfl rfl (cs := encNV ⟨(N3).id, (N3).cell.li, (N3).role.epoch, true, none, 0, 0⟩) (by rfl) (fun b9 w3 hb9 hx hS => ?_)
    replace hK := hK.trans hx
    refine KeepC.mk hK ?_
    clear hx
    (conv => whnf)
    refine hS.appX codNote 7 (ys := [⟨(N3).id, (N3).cell.li, (N3).role.epoch, true, none, 0, 0⟩]) (G := fun _ => True) Tryz.underlying79 (bytes := 56) (by kernel_rfl) (z := .agg (encNV noNV).toArray) (by kernel_rfl) rfl rfl (Slc.of_blk codNote (hS.blk 8 rfl) rfl (by simp) (fun _ _ => trivial) rfl) (by unfold maxLen; decide) (by decide) (fun a1 c1 w4 hx hS => ?_)
    replace hK := hK.trans (hx.mono fun q h => by simp [Value.ownBlock] at h)
    refine KeepC.mk hK ?_
    clear hx hK
    replace hS := hS.keep 8
    repeat' ((conv => whnf); first | refine RetC.mk ?_ | refine NzC.mk (by decide) ?_ | refine RngC.mk (by omega) (by omega) ?_ | refine IdxC.mk (by omega) (by omega) ?_ | refine brD (fun _ => ?_) (fun _ => ?_) | refine brND (fun _ => ?_) (fun _ => ?_) | refine brN (fun _ => ?_) (fun _ => ?_) | refine brI (fun _ => ?_) (fun _ => ?_))
    rw [notes_tf hbt]
    exact ⟨a1, c1, none, 0, (R'), rfl, hA2, hR2, St.turns (hS.addNil 59 10 encCell)⟩
  · skip
    (conv => whnf)
    refine hS.ld 0 rfl rfl ?_
    (conv => whnf)
    refine NzC.mk (by decide) ?_
    by_cases hz : (N3).now.tmod 3 = 0
    · have hbt : (N3).beat = true := by
        unfold NodeS.beat
        rw [hact, decide_eq_true hz]
        rfl
      (conv => whnf)
      (refine drawS tabOk mixed [] No [0, 1, 2, 3, 4, 5, 6, 7, 8, 9, 10, 11, 12, 13, 14, 15, 16, 17, 18, 19, 20, 21, 22] (by kernel_rfl) ?_; rintro w1 rfl; replace hS := hS.drew)
      have hK := hS.ref No
      repeat' ((conv => whnf); first | refine hS.ldF 0 rfl rfl id ?_ | refine hS.ldF 2 rfl rfl id ?_ | refine hS.ldF 1 rfl rfl id ?_)
      refine hS.litX Tryz.underlying79 (sz := 5) (by kernel_rfl) (z := .agg (encNV noNV).toArray) (by kernel_rfl) rfl rfl (cs := encNV ⟨(N3).id, (N3).cell.li, (N3).role.epoch, true, none, 0, 0⟩) (by rfl) (fun b9 w3 hb9 hx hS => ?_)
      replace hK := hK.trans hx
      refine KeepC.mk hK ?_
      clear hx
      (conv => whnf)
      refine hS.appX codNote 7 (ys := [⟨(N3).id, (N3).cell.li, (N3).role.epoch, true, none, 0, 0⟩]) (G := fun _ => True) Tryz.underlying79 (bytes := 56) (by kernel_rfl) (z := .agg (encNV noNV).toArray) (by kernel_rfl) rfl rfl (Slc.of_blk codNote (hS.blk 8 rfl) rfl (by simp) (fun _ _ => trivial) rfl) (by unfold maxLen; decide) (by decide) (fun a1 c1 w4 hx hS => ?_)
      replace hK := hK.trans (hx.mono fun q h => by simp [Value.ownBlock] at h)
      refine KeepC.mk hK ?_
      clear hx hK
      replace hS := hS.keep 8
      replace hS : St w (inF (rnodeH A N R)) w4 (rnodeH A (N3) (R') ++ [ownL 134 5 encNV (.slice a1 1 c1) [⟨(N3).id, (N3).cell.li, (N3).role.epoch, true, none, 0, 0⟩]]) := hS
      (conv => whnf)
      refine brD (fun _ => ?_) (fun h => absurd hz h)
      (conv => whnf)
      have hn4 := St.neF hS 0 4 rfl rfl (by decide) (c := A.x) (by simp [refL])
      have hn5 := St.neF hS 0 4 rfl rfl (by decide) (c := A.xg) (by simp [refL])
      have hn8 : ¬ (Value.slice a1 1 c1).ownBlock = some A.n := fun h => hS.apartAt 0 7 rfl rfl (by decide) _ (List.mem_singleton.2 rfl) (by simp only [ownL, own]; rw [h]; simp)
      have hc4 := St.neF hS 2 4 rfl rfl (by decide) (c := A.x) (by simp [refL])
      have hc5 := St.neF hS 2 4 rfl rfl (by decide) (c := A.xg) (by simp [refL])
      have hc8 : ¬ (Value.slice a1 1 c1).ownBlock = some A.c := fun h => hS.apartAt 2 7 rfl rfl (by decide) _ (List.mem_singleton.2 rfl) (by simp only [ownL, own]; rw [h]; simp)
      have hr4 := St.neF hS 1 4 rfl rfl (by decide) (c := A.x) (by simp [refL])
      have hr5 := St.neF hS 1 4 rfl rfl (by decide) (c := A.xg) (by simp [refL])
      have hr8 : ¬ (Value.slice a1 1 c1).ownBlock = some A.r := fun h => hS.apartAt 1 7 rfl rfl (by decide) _ (List.mem_singleton.2 rfl) (by simp only [ownL, own]; rw [h]; simp)
      have hap : ∀ b ∈ [A.t, A.tg], ¬ (b = A.x ∨ b = A.xg) := fun b hb hx => hS.apartAt 3 4 rfl rfl (by decide) b (by simpa [refT] using hb) (by simpa [refL] using hx)
      (refine drawS tabOk mixed [] (fun b => b = A.x ∨ b = A.xg ∨ (Value.slice a1 1 c1).ownBlock = some b) [0, 1, 2, 3, 4, 5, 6, 7, 8, 9, 10, 11, 12, 13, 14, 15, 16, 17, 18, 19, 20, 21, 22, 23, 24, 25, 26, 27] (by kernel_rfl) ?_; rintro w1 rfl; replace hS := hS.drew)
      have hK := hS.ref (fun b => b = A.x ∨ b = A.xg ∨ (Value.slice a1 1 c1).ownBlock = some b)
      repeat' ((conv => whnf); first | refine hS.ldF 0 rfl rfl (fun h => h.elim hn4 fun h => h.elim hn5 hn8) ?_ | refine hS.ldF 2 rfl rfl (fun h => h.elim hc4 fun h => h.elim hc5 hc8) ?_ | refine hS.ldF 1 rfl rfl (fun h => h.elim hr4 fun h => h.elim hr5 hr8) ?_)
      refine (rlNext_ok (hS.get 3 rfl) (hS.get 4 rfl) hap hO2.tab hO2.told hO2.cur).mono ?_
      rintro v w' ⟨⟨x, y, rfl⟩, hx, hB, ho, hf⟩
      replace hS := hS.updMade 4 rfl hx (fun c hc => by simpa [refL] using hc) refL_local hB (fun c hc => hc) ownL_local ho (fun g hg => hf g (by simpa [ownL, own] using hg))
      replace hK := hK.trans (hx.mono fun b h => h.elim .inl fun h => .inr (.inl h))
      refine KeepC.mk hK ?_
      clear hx hB ho hf
      (conv => whnf)
      refine hS.litX Tryz.underlying79 (sz := 5) (by kernel_rfl) (z := .agg (encNV noNV).toArray) (by kernel_rfl) rfl rfl (cs := encNV ⟨(N3).id, (N3).cell.li, (N3).role.epoch, false, x, ((N3).tel.picks (N3).tab.cells).length, y⟩) (by rfl) (fun b9 w3 hb9 hx hS => ?_)
      replace hK := hK.trans hx.of_no
      refine KeepC.mk hK ?_
      clear hx
      (conv => whnf)
      refine hS.appX codNote 7 (ys := [⟨(N3).id, (N3).cell.li, (N3).role.epoch, false, x, ((N3).tel.picks (N3).tab.cells).length, y⟩]) (G := fun _ => True) Tryz.underlying79 (bytes := 56) (by kernel_rfl) (z := .agg (encNV noNV).toArray) (by kernel_rfl) rfl rfl (Slc.of_blk codNote (hS.blk 9 rfl) rfl (by simp) (fun _ _ => trivial) rfl) (by unfold maxLen; show 1 + 1 ≤ _; decide) (by show (1 + 1) * 56 ≤ _; decide) (fun a2 c2 w4 hx hS => ?_)
      replace hK := hK.trans (hx.mono fun q h => .inr (.inr h))
      refine KeepC.mk hK ?_
      clear hx hK
      replace hS := hS.keep 9
      repeat' ((conv => whnf); first | refine RetC.mk ?_ | refine NzC.mk (by decide) ?_ | refine RngC.mk (by omega) (by omega) ?_ | refine IdxC.mk (by omega) (by omega) ?_ | refine brD (fun _ => ?_) (fun _ => ?_) | refine brND (fun _ => ?_) (fun _ => ?_) | refine brN (fun _ => ?_) (fun _ => ?_) | refine brI (fun _ => ?_) (fun _ => ?_))
      rw [notes_t hbt]
      replace hS : St w (inF (rnodeH A N R)) w4 (rnodeH A { (N3) with tel := (N3).tel.next (N3).tab.cells } (R') ++ rnoteH a2 c2 x y [⟨(N3).id, (N3).cell.li, (N3).role.epoch, true, []⟩, ⟨(N3).id, (N3).cell.li, (N3).role.epoch, false, outC (N3).tab.cells ((N3).tel.picks (N3).tab.cells)⟩]) := by
        have hc : cellsOfN [⟨(N3).id, (N3).cell.li, (N3).role.epoch, true, []⟩, ⟨(N3).id, (N3).cell.li, (N3).role.epoch, false, outC (N3).tab.cells ((N3).tel.picks (N3).tab.cells)⟩] = outC (N3).tab.cells ((N3).tel.picks (N3).tab.cells) := by simp [cellsOfN]
        have hv : [(⟨(N3).id, (N3).cell.li, (N3).role.epoch, true, []⟩ : NoteS), ⟨(N3).id, (N3).cell.li, (N3).role.epoch, false, outC (N3).tab.cells ((N3).tel.picks (N3).tab.cells)⟩].map (noteV x y) = [⟨(N3).id, (N3).cell.li, (N3).role.epoch, true, none, 0, 0⟩, ⟨(N3).id, (N3).cell.li, (N3).role.epoch, false, x, ((N3).tel.picks (N3).tab.cells).length, y⟩] := by simp [noteV, outC_len]
        unfold rnoteH
        rw [hc, hv, outC_len]
        exact hS
      exact ⟨a2, c2, x, y, (R'), rfl, hA2, hR2, St.turns hS⟩
    · have hbt : (N3).beat = false := by
        unfold NodeS.beat
        rw [decide_eq_false hz, Bool.and_false]
      (conv => whnf)
      (refine drawS tabOk mixed [] No [0, 1, 2, 3, 4, 5, 6, 7, 8, 9, 10, 11, 12, 13, 14, 15, 16, 17, 18, 19, 20, 21, 22] (by kernel_rfl) ?_; rintro w1 rfl; replace hS := hS.drew)
      have hK := hS.ref No
      repeat' ((conv => whnf); first | refine hS.ldF 0 rfl rfl id ?_ | refine hS.ldF 2 rfl rfl id ?_ | refine hS.ldF 1 rfl rfl id ?_)
      refine hS.litX Tryz.underlying79 (sz := 5) (by kernel_rfl) (z := .agg (encNV noNV).toArray) (by kernel_rfl) rfl rfl (cs := encNV ⟨(N3).id, (N3).cell.li, (N3).role.epoch, true, none, 0, 0⟩) (by rfl) (fun b9 w3 hb9 hx hS => ?_)
      replace hK := hK.trans hx
      refine KeepC.mk hK ?_
      clear hx
      (conv => whnf)
      refine hS.appX codNote 7 (ys := [⟨(N3).id, (N3).cell.li, (N3).role.epoch, true, none, 0, 0⟩]) (G := fun _ => True) Tryz.underlying79 (bytes := 56) (by kernel_rfl) (z := .agg (encNV noNV).toArray) (by kernel_rfl) rfl rfl (Slc.of_blk codNote (hS.blk 8 rfl) rfl (by simp) (fun _ _ => trivial) rfl) (by unfold maxLen; decide) (by decide) (fun a1 c1 w4 hx hS => ?_)
      replace hK := hK.trans (hx.mono fun q h => by simp [Value.ownBlock] at h)
      refine KeepC.mk hK ?_
      clear hx hK
      replace hS := hS.keep 8
      (conv => whnf)
      refine brD (fun h => absurd h hz) (fun _ => ?_)
      repeat' ((conv => whnf); first | refine RetC.mk ?_ | refine NzC.mk (by decide) ?_ | refine RngC.mk (by omega) (by omega) ?_ | refine IdxC.mk (by omega) (by omega) ?_ | refine brD (fun _ => ?_) (fun _ => ?_) | refine brND (fun _ => ?_) (fun _ => ?_) | refine brN (fun _ => ?_) (fun _ => ?_) | refine brI (fun _ => ?_) (fun _ => ?_))
      rw [notes_tf hbt]
      exact ⟨a1, c1, none, 0, (R'), rfl, hA2, hR2, St.turns (hS.addNil 59 10 encCell)⟩
end
end Go.Proofs.YtoaghhcjlfiflaaGreatDoor

/-
  The reference's node, walked: hearing a note, a new node.
-/
namespace Go.Proofs.YtoaghhcjlfiflaaGreatDoor
open Go Ev
theorem Ev.St.newK {w0 w1 w : World} {S T : Nat → Prop} {H : List Ent} (h : St w0 S w H) (hK : Ext T w1 w) {t : TypeId} {cs : List Value} {k : Value → World → Prop} (hk : ∀ b w', Ext T w1 w' → St w0 S w' (H ++ [Ev.blk b t cs]) → k (.pointer (some ⟨b, 0, none⟩)) w') : NewC w t cs k := by
  obtain ⟨h1⟩ := h.new (t := t) (cs := cs) (k := fun v w' => Ext T w1 w' → k v w') (fun b w' _ hS hx => hk b w' hx hS)
  exact ⟨h1 (hK.trans (Ext.push _ _ _ _))⟩
theorem Ev.St.mergeM {w0 w : World} {S : Nat → Prop} {H : List Ent} {bm g c : Nat} {life : Int} {l : List CellS} (h : St w0 S w (Ev.blk bm 183 [.int .i64 life, .slice (some ⟨g, 0, none⟩) 32 c] :: ownL 59 10 encCell (.slice (some ⟨g, 0, none⟩) 32 c) l :: H)) : St w0 S w (refM bm g c ⟨life, l⟩ :: H) := by
  have hap := List.pairwise_cons.1 h.apart
  have hap2 := List.pairwise_cons.1 hap.2
  have hg : g ∈ (ownL 59 10 encCell (.slice (some ⟨g, 0, none⟩) 32 c) l).foot := by simp [ownL, own, Value.ownBlock]
  have hbm : bm ∈ (Ev.blk bm 183 [.int .i64 life, .slice (some ⟨g, 0, none⟩) 32 c]).foot := List.mem_singleton.2 rfl
  have hne : bm ≠ g := fun e => hap.1 _ List.mem_cons_self bm hbm (e ▸ hg)
  have hmH : ∀ f ∈ H, f ∈ Ev.blk bm 183 [.int .i64 life, .slice (some ⟨g, 0, none⟩) 32 c] :: ownL 59 10 encCell (.slice (some ⟨g, 0, none⟩) 32 c) l :: H := fun f hf => List.mem_cons_of_mem _ (List.mem_cons_of_mem _ hf)
  refine ⟨h.ext, ?_, ?_, ?_, ?_⟩
  · intro e he
    rcases List.mem_cons.1 he with rfl | he
    · exact ⟨hne, h.blk 0 rfl, h.get 1 rfl⟩
    · exact h.each e (hmH e he)
  · intro e he
    rcases List.mem_cons.1 he with rfl | he
    · exact refM_local
    · exact h.loc e (hmH e he)
  · intro e he b hb
    rcases List.mem_cons.1 he with rfl | he
    · simp only [refM, List.mem_cons, List.not_mem_nil, or_false] at hb
      rcases hb with rfl | rfl
      · exact h.may _ List.mem_cons_self _ hbm
      · exact h.may _ (List.mem_cons_of_mem _ List.mem_cons_self) _ hg
    · exact h.may e (hmH e he) b hb
  · refine .cons (fun f hf b hb => ?_) hap2.2
    simp only [refM, List.mem_cons, List.not_mem_nil, or_false] at hb
    rcases hb with rfl | rfl
    · exact hap.1 f (List.mem_cons_of_mem _ hf) _ hbm
    · exact hap2.1 f hf _ hg
section
variable {w : World} {A : RNodeA} {N : NodeS} {R : RBy} {B : BytS}
theorem rhear_ok {m : Nat} {G : CellS → Prop} (x : NoteV) (cs : List CellS) (hx : Slc w 10 encCell G x.a x.n cs) (hsrc : 0 < x.n → ∀ b0 o0, x.a = some ⟨b0, o0, none⟩ → ¬ inF (rnodeH A N R) b0) (hN : Has w (rnodeH A N R)) (hO : NOk m N) :
    CallC Tryz.prog 121 #[.pointer (some ⟨A.n, 0, none⟩), .agg (encNV x).toArray] w fun v w' => v = .int .i64 ((N.hear ⟨x.fro, x.life, x.epoch, x.claim, cs⟩).1 : Nat) ∧ ∃ g' c', Turns w w' (rnodeH A N R) (rnodeH { A with mg := g', mc := c' } (N.hear ⟨x.fro, x.life, x.epoch, x.claim, cs⟩).2 R) := by
  have hid := hO.id
  refine fn_intro tabOk Tryz.func121 (by kernel_rfl) rfl Tryz.ntmps121 (Nat.le_of_ble_eq_true rfl) ?_
  have hS := hN.start
  (conv => whnf)
  refine hS.new (fun bx w' hbx hS => ?_)
  replace hS : St w (inF (rnodeH A N R)) w' (rnodeH A N R ++ [blk bx 134 (encNV x)]) := hS
  (conv => whnf)
  (refine drawS tabOk mixed [] No [0, 1, 2, 3, 4, 5, 6, 7, 8, 9, 10, 11, 12, 13, 14, 15, 16, 17] (by kernel_rfl) ?_; rintro w1 rfl; replace hS := hS.drew)
  repeat' ((conv => whnf); first | refine hS.ldF 7 rfl rfl id ?_ | refine hS.ldF 0 rfl rfl id ?_ | refine RngC.mk (by omega) (by omega) ?_)
  generalize hxs : (⟨x.fro, x.life, x.epoch, x.claim, cs⟩ : NoteS) = xs
  have hcond : (x.fro ≠ 1 - N.id ∨ x.epoch < 0 ∨ x.epoch > 1073741824) → N.hear xs = (2, N) := fun h => by
    subst hxs
    exact if_pos h
  (conv => whnf)
  refine brND (fun h1 => ?_) (fun h1 => ?_)
  · rw [hcond (.inl h1)]
    repeat' ((conv => whnf); first | refine RetC.mk ?_ | refine NzC.mk (by decide) ?_ | refine RngC.mk (by omega) (by omega) ?_ | refine IdxC.mk (by omega) (by omega) ?_ | refine brD (fun _ => ?_) (fun _ => ?_) | refine brND (fun _ => ?_) (fun _ => ?_) | refine brN (fun _ => ?_) (fun _ => ?_) | refine brI (fun _ => ?_) (fun _ => ?_))
    exact ⟨rfl, A.mg, A.mc, (hS.keep 7).turns⟩
  (conv => whnf)
  refine hS.ldF 7 rfl rfl id ?_
  (conv => whnf)
  refine brD (fun h2 => ?_) (fun h2 => ?_)
  · rw [hcond (.inr (.inl h2))]
    repeat' ((conv => whnf); first | refine RetC.mk ?_ | refine NzC.mk (by decide) ?_ | refine RngC.mk (by omega) (by omega) ?_ | refine IdxC.mk (by omega) (by omega) ?_ | refine brD (fun _ => ?_) (fun _ => ?_) | refine brND (fun _ => ?_) (fun _ => ?_) | refine brN (fun _ => ?_) (fun _ => ?_) | refine brI (fun _ => ?_) (fun _ => ?_))
    exact ⟨rfl, A.mg, A.mc, (hS.keep 7).turns⟩
  (conv => whnf)
  refine hS.ldF 7 rfl rfl id ?_
  (conv => whnf)
  refine brD (fun h3 => ?_) (fun h3 => ?_)
  · rw [hcond (.inr (.inr h3))]
    repeat' ((conv => whnf); first | refine RetC.mk ?_ | refine NzC.mk (by decide) ?_ | refine RngC.mk (by omega) (by omega) ?_ | refine IdxC.mk (by omega) (by omega) ?_ | refine brD (fun _ => ?_) (fun _ => ?_) | refine brND (fun _ => ?_) (fun _ => ?_) | refine brN (fun _ => ?_) (fun _ => ?_) | refine brI (fun _ => ?_) (fun _ => ?_))
    exact ⟨rfl, A.mg, A.mc, (hS.keep 7).turns⟩
  (conv => whnf)
  refine hS.ld 7 rfl rfl ?_
  cases hcl : x.claim
  case true =>
    rw [show N.hear xs = (3, N) by subst hxs; unfold NodeS.hear; rw [if_neg (by dsimp only; omega), if_pos hcl]]
    repeat' ((conv => whnf); first | refine RetC.mk ?_ | refine NzC.mk (by decide) ?_ | refine RngC.mk (by omega) (by omega) ?_ | refine IdxC.mk (by omega) (by omega) ?_ | refine brD (fun _ => ?_) (fun _ => ?_) | refine brND (fun _ => ?_) (fun _ => ?_) | refine brN (fun _ => ?_) (fun _ => ?_) | refine brI (fun _ => ?_) (fun _ => ?_))
    exact ⟨rfl, A.mg, A.mc, (hS.keep 7).turns⟩
  have hh : N.hear xs = if (N.mir.tell x.life cs).1 ≠ 0 then ((N.mir.tell x.life cs).1, { N with mir := (N.mir.tell x.life cs).2 }) else (0, { N with mir := (N.mir.tell x.life cs).2, role := (N.role.hear x.epoch).2 }) := by
    subst hxs
    unfold NodeS.hear
    rw [if_neg (by dsimp only; omega), if_neg (by show ¬ x.claim = true; rw [hcl]; decide)]
  have hn5 := St.neF hS 0 5 rfl rfl (by decide) (c := A.m) (by simp [refM])
  have hn6 := St.neF hS 0 5 rfl rfl (by decide) (c := A.mg) (by simp [refM])
  have hn7 := St.neF hS 7 5 rfl rfl (by decide) (c := A.m) (by simp [refM])
  have hn8 := St.neF hS 7 5 rfl rfl (by decide) (c := A.mg) (by simp [refM])
  (conv => whnf)
  (refine drawS tabOk mixed [] (fun b => b = A.m ∨ b = A.mg) [0, 1, 2, 3, 4, 5, 6, 7, 8, 9] (by kernel_rfl) ?_; rintro w1 rfl; replace hS := hS.drew)
  repeat' ((conv => whnf); first | refine hS.ldF 0 rfl rfl (fun h => h.elim hn5 hn6) ?_ | refine hS.ldF 7 rfl rfl (fun h => h.elim hn7 hn8) ?_)
  have hinm : ∀ d, d = A.m ∨ d = A.mg → inF (rnodeH A N R) d := fun d hd => ⟨_, List.mem_of_getElem? (i := 5) rfl, by simpa [refM] using hd⟩
  refine (refTell_ok x.life (hS.get 5 rfl) hO.mir (hx.extN hS.ext hsrc) (fun h b0 o0 ha => ⟨fun e => hsrc h b0 o0 ha (hinm _ (.inl e)), fun e => hsrc h b0 o0 ha (hinm _ (.inr e))⟩)).mono ?_
  rintro v w' ⟨g', c', rfl, hx', hM, hg'⟩
  refine KeepC.mk hx' ?_
  replace hS := hS.upd 5 rfl hx' (fun d hd => by simpa [refM] using hd) refM_local hM (by
    intro d hd
    simp only [refM, List.mem_cons, List.not_mem_nil, or_false] at hd ⊢
    rcases hd with rfl | rfl
    · exact .inl (.inl rfl)
    · rcases hg' with rfl | h
      · exact .inl (.inr rfl)
      · exact .inr h)
  rw [hh]
  clear hh hcond hxs hM hx' hg' hn5 hn6 hn7 hn8 hinm hsrc hx
  generalize N.mir.tell x.life cs = Q at hS ⊢
  obtain ⟨k, M⟩ := Q
  replace hS : St w (inF (rnodeH A N R)) w' (rnodeH { A with mg := g', mc := c' } { N with mir := M } R ++ [blk bx 134 (encNV x)]) := hS
  by_cases hk : k = 0
  case neg =>
    rw [if_pos (show ((k, M) : Nat × MirS).1 ≠ 0 from hk)]
    (conv => whnf)
    refine brD (fun h => absurd (show k = 0 by omega) hk) (fun _ => ?_)
    repeat' ((conv => whnf); first | refine RetC.mk ?_ | refine NzC.mk (by decide) ?_ | refine RngC.mk (by omega) (by omega) ?_ | refine IdxC.mk (by omega) (by omega) ?_ | refine brD (fun _ => ?_) (fun _ => ?_) | refine brND (fun _ => ?_) (fun _ => ?_) | refine brN (fun _ => ?_) (fun _ => ?_) | refine brI (fun _ => ?_) (fun _ => ?_))
    exact ⟨rfl, g', c', (hS.keep 7).turns⟩
  subst hk
  rw [if_neg (show ¬ ((0, M) : Nat × MirS).1 ≠ 0 by simp)]
  have hn1 := hS.ne 0 1 rfl rfl (by decide)
  have hn8 := hS.ne 7 1 rfl rfl (by decide)
  (conv => whnf)
  (refine drawS tabOk mixed [] (fun b => b = A.r) [0, 1, 2, 3, 4, 5, 6] (by kernel_rfl) ?_; rintro w1 rfl; replace hS := hS.drew)
  repeat' ((conv => whnf); first | refine hS.ldF 0 rfl rfl hn1 ?_ | refine hS.ldF 7 rfl rfl hn8 ?_)
  refine (ref_hear x.epoch (hS.blk 1 rfl)).mono ?_
  rintro v w' ⟨rfl, hx', hB⟩
  refine KeepC.mk hx' ?_
  replace hS := hS.upd 1 rfl hx' (fun c hc => by subst hc; exact List.mem_singleton.2 rfl) (blk_local _ _ _) hB (fun c hc => .inl hc)
  repeat' ((conv => whnf); first | refine RetC.mk ?_ | refine NzC.mk (by decide) ?_ | refine RngC.mk (by omega) (by omega) ?_ | refine IdxC.mk (by omega) (by omega) ?_ | refine brD (fun _ => ?_) (fun _ => ?_) | refine brND (fun _ => ?_) (fun _ => ?_) | refine brN (fun _ => ?_) (fun _ => ?_) | refine brI (fun _ => ?_) (fun _ => ?_))
  exact ⟨rfl, g', c', (hS.keep 7).turns⟩
theorem nput_same (C : CelS) (B : BytS) (l : Int) : (C.put B C.ep l).2.2.ep = C.ep := by
  unfold CelS.put
  repeat' split
  all_goals dsimp only
  all_goals simp
theorem rnew_ok {k b : Nat} {a : Option Addr} {c : Nat} {xs : List RuleS} (id : Int) (hid : id = 0 ∨ id = 1) (hb : Blk w b 171 (encRB R)) (hA : Alike R B) (hB : BOk B) (hR : ROk R k) (hk : k ≤ 50000000) :
    CallC Tryz.prog 69 #[.int .i64 id, .pointer (some ⟨b, 0, none⟩), .slice a xs.length c] w fun v w' => ∃ R', Alike R' (newN id B xs).2.2 ∧ ROk R' (k + 18) ∧
      (((newN id B xs).1 = 0 ∧ ∃ A : RNodeA, A.b = b ∧ A.ra = a ∧ A.rc = c ∧ v = .tuple #[.pointer (some ⟨A.n, 0, none⟩), .int .i64 0] ∧ Turns w w' [blk b 171 (encRB R)] (rnodeH A (newN id B xs).2.1 R')) ∨
      ((newN id B xs).1 ≠ 0 ∧ v = .tuple #[.pointer none, .int .i64 ((newN id B xs).1 : Nat)] ∧ Ext (· = b) w w' ∧ Blk w' b 171 (encRB R'))) := by
  have hH : Has w [blk b 171 (encRB R)] := ((St.start w (· = b)).add (blk_local b _ _) hb (by simp [blk]; exact hb.lt) (by simp)).has
  have hin : ∀ d, inF [blk b 171 (encRB R)] d → d = b := fun d ⟨e, he, hd⟩ => by
    obtain rfl := List.mem_singleton.1 he
    exact List.mem_singleton.1 hd
  have hS := hH.start
  clear hb
  refine fn_intro tabOk Tryz.func69 (by kernel_rfl) rfl Tryz.ntmps69 (Nat.le_of_ble_eq_true rfl) ?_
  (conv => whnf)
  refine (ropen_ok (hS.blk 0 rfl) hR.len).mono ?_
  rintro v w3 ⟨bc, rfl, hbc, hx', hB1⟩
  replace hS := hS.made hx' (blk_local _ _ _) hB1 (by simp [blk]; exact ⟨hbc, hB1.lt⟩)
  clear hx' hB1
  have hlt := openN_lt R.data 2
  have hnew : newN id B xs = (((openS R.data).put B (openS R.data).ep ((openS R.data).li + 1)).1, .born id ((openS R.data).put B (openS R.data).ep ((openS R.data).li + 1)).2.2 xs, ((openS R.data).put B (openS R.data).ep ((openS R.data).li + 1)).2.1) := by rw [hA.data]; rfl
  rw [hnew]
  generalize hC : openS R.data = C at hS ⊢
  have hlt : C.num < 4294967296 ∧ C.ep < 4294967296 ∧ C.li < 4294967296 := by rw [← hC]; exact hlt
  clear hnew hC
  (conv => whnf)
  refine drawI tabOk mixed [8] (fun w1 w' => Ext (fun d => d = b ∨ d = bc) w1 w' ∧ ∃ C' : CelS, C'.ep = C.ep ∧ Blk w' bc 175 (encCl b C')) [0, 1, 2, 3, 4, 5, 6, 7, 8, 9, 10, 11] (by kernel_rfl) ?_
  rintro w1 rfl
  replace hS := hS.drew
  refine ⟨⟨Ext.refl _ _, C, rfl, hS.blk 1 rfl⟩, ?_⟩
  have hK := hS.ref (fun d => d = b ∨ d = bc)
  (conv => whnf)
  refine ⟨.int .i64 C.ep, fun w' h => by obtain ⟨_, C', h1, h2⟩ := h; rw [h2.cell, ← h1]; rfl, ?_⟩
  (conv => whnf)
  refine hS.ld 1 rfl rfl ?_
  refine KeepC.mk ⟨hK, C, rfl, hS.blk 1 rfl⟩ ?_
  (conv => whnf)
  refine RngC.mk (by omega) (by omega) ?_
  (conv => whnf)
  refine (rcput_ok C.ep (C.li + 1) (hS.blk 1 rfl) (hS.blk 0 rfl) hA hB hR hk hlt.1).mono ?_
  rintro v w6 ⟨rfl, hx', R', hA', hR', hB1, hC1⟩
  have hep := nput_ep0 C B C.ep (C.li + 1)
  refine KeepC.mk ⟨hK.trans hx', _, nput_same _ _ _, hC1⟩ ?_
  have hS2 := Ev.St.upd2 hS hx' (by simp [blk]) (blk_local _ _ _) hB1 rfl (blk_local _ _ _) hC1 rfl
  clear hS hB1 hC1 hx' hK
  generalize C.put B C.ep (C.li + 1) = Q at hS2 hep hA' ⊢
  obtain ⟨e, B2, C2⟩ := Q
  have hS : St w (inF [blk b 171 (encRB R)]) w6 [blk b 171 (encRB R'), blk bc 175 (encCl b C2)] := hS2
  clear hS2
  dsimp only at hep hA' ⊢
  by_cases he : e = 0
  case neg =>
    (conv => whnf)
    refine brD (fun _ => ?_) (fun h => absurd (show (e : Int) > 0 by omega) h)
    repeat' ((conv => whnf); first | refine RetC.mk ?_ | refine NzC.mk (by decide) ?_ | refine RngC.mk (by omega) (by omega) ?_ | refine IdxC.mk (by omega) (by omega) ?_ | refine brD (fun _ => ?_) (fun _ => ?_) | refine brND (fun _ => ?_) (fun _ => ?_) | refine brN (fun _ => ?_) (fun _ => ?_) | refine brI (fun _ => ?_) (fun _ => ?_))
    exact ⟨R', hA', hR', .inr ⟨he, rfl, hS.ext.mono hin, hS.blk 0 rfl⟩⟩
  subst he
  obtain ⟨he, _⟩ := hep rfl
  (conv => whnf)
  refine DrawC.cut (fun σ w' => ∃ br bt tg tc bm mg mc bn, σ = [(10, .pointer (some ⟨bn, 0, none⟩))] ∧ St w (inF [blk b 171 (encRB R)]) w' [refM bm mg mc ⟨0, emptyCells⟩, blk b 171 (encRB R'), blk bc 175 (encCl b C2), blk br 178 (encRole ⟨id, C2.ep, 0, false⟩), refT bt tg tc ⟨2000 + id * 24, emptyCells⟩, blk bn 186 [.int .i64 id, .int .i64 0, .pointer (some ⟨bc, 0, none⟩), .pointer (some ⟨br, 0, none⟩), .pointer (some ⟨bt, 0, none⟩), .pointer none, .pointer (some ⟨bm, 0, none⟩), .slice a xs.length c]]) ?_ ?_
  · refine drawT tabOk mixed [] (No) (.take 0 (.take 1 (.take 2 (.take 3 (.take 4 (.take 5 (.take 6 (.take 7 (.take 9 (.take 14 (.alt 8 (.alt 10 (.alt 11 (.take 12 (.alt 13 (.take 15 (.alt 16 (.take 17 .fin) .fin)) .fin)) .fin) .fin) (.alt 10 (.alt 8 (.alt 11 (.take 12 (.alt 13 (.take 15 (.alt 16 (.take 17 .fin) .fin)) .fin)) .fin) (.alt 11 (.take 12 (.alt 8 (.alt 13 (.take 15 (.alt 16 (.take 17 .fin) .fin)) .fin) (.alt 13 (.alt 8 (.take 15 (.alt 16 (.take 17 .fin) .fin)) .fin) .fin))) .fin)) .fin)))))))))))) (by kernel_rfl) ?_
    rintro w1 rfl
    replace hS := hS.drew
    have hK := hS.ref No
    repeat' ((conv => whnf); first | refine And.intro ?_ ?_ | refine hS.ldF 1 rfl rfl (fun h => h) ?_ | (refine hS.newK hK (fun bw w' hK hS => KeepC.mk hK ?_)) | (refine (newTable_ok id hid _).mono ?_; rintro v w' ⟨bt, tg, tc, rfl, hx', hT, hf⟩; replace hS := hS.made hx' refT_local hT hf; replace hK := hK.trans hx'; clear hx' hT hf; refine KeepC.mk hK ?_) | (refine (empty_ok _).mono ?_; rintro v w' ⟨mg, mc, rfl, hx', ho, hf⟩; replace hS := hS.made hx' ownL_local ho (fun g hg => hf g (by simpa [ownL, own] using hg)); replace hK := hK.trans hx'; clear hx' ho hf; refine KeepC.mk hK ?_))
    all_goals first
      | exact CutE.mk ⟨[(10, _)], ⟨rfl, trivial⟩, _, _, _, _, _, _, _, _, rfl, (hS.sel [5, 4, 0, 1, 2, 3, 6] (by decide)).mergeM⟩
      | exact CutE.mk ⟨[(10, _)], ⟨rfl, trivial⟩, _, _, _, _, _, _, _, _, rfl, (hS.sel [5, 4, 0, 1, 3, 2, 6] (by decide)).mergeM⟩
      | exact CutE.mk ⟨[(10, _)], ⟨rfl, trivial⟩, _, _, _, _, _, _, _, _, rfl, (hS.sel [5, 3, 0, 1, 4, 2, 6] (by decide)).mergeM⟩
      | exact CutE.mk ⟨[(10, _)], ⟨rfl, trivial⟩, _, _, _, _, _, _, _, _, rfl, (hS.sel [4, 3, 0, 1, 5, 2, 6] (by decide)).mergeM⟩
      | trace_state
  clear hS
  rintro _ w7 ⟨br, bt, tg, tc, bm, mg, mc, bn, rfl, hS⟩
  (conv => whnf)
  refine hS.ld 5 rfl rfl ?_
  (conv => whnf)
  refine (rlNew_ok _).mono ?_
  rintro v w8 ⟨bx, xg, xc, rfl, hx', hL, hf⟩
  replace hS := hS.made hx' refL_local hL hf
  (conv => whnf)
  refine hS.st 5 rfl (Nat.le_of_ble_eq_true rfl) rfl (fun w' hS => ?_)
  have hS2 := hS.sel [5, 3, 2, 4, 6, 0, 1] (by decide)
  repeat' ((conv => whnf); first | refine RetC.mk ?_ | refine NzC.mk (by decide) ?_ | refine RngC.mk (by omega) (by omega) ?_ | refine IdxC.mk (by omega) (by omega) ?_ | refine brD (fun _ => ?_) (fun _ => ?_) | refine brND (fun _ => ?_) (fun _ => ?_) | refine brN (fun _ => ?_) (fun _ => ?_) | refine brI (fun _ => ?_) (fun _ => ?_))
  exact ⟨R', hA', hR', .inl ⟨rfl, ⟨bn, br, bc, bt, tg, tc, bx, xg, xc, bm, mg, mc, b, a, c⟩, rfl, rfl, rfl, rfl, St.turns hS2⟩⟩
end
end Go.Proofs.YtoaghhcjlfiflaaGreatDoor

/-
  What the laws about nodes share: a closed fact, notes, how a node and its reference stand.
-/
namespace Go.Proofs.YtoaghhcjlfiflaaGreatDoor
open Go Ev
section
variable {w : World}
/-! ### Notes, from one to the other -/
theorem backNotes_ok {G : NoteV → Prop} {a : Option Addr} {n c : Nat} {xs : List NoteV} (hx : Slc w 5 encNV G a n xs) (hn : n ≤ 1000) :
    CallC Tryz.prog 36 #[.slice a n c] w fun v w' => ∃ a' c', v = .slice a' n c' ∧ Ext No w w' ∧ (ownL 134 5 encNV v xs).holds w' ∧ Fresh w w' v := by
  have hl := hx.len
  refine fn_intro tabOk Tryz.func36 (by kernel_rfl) rfl Tryz.ntmps36 (Nat.le_of_ble_eq_true rfl) ?_
  have hS := (St.start w No).addNil 134 5 encNV
  (conv => whnf)
  refine loopR tabOk (fun σ w' q => ∃ (k : Nat) (a' : Option Addr) (c' : Nat), σ = [(4, .int .i64 k), (3, .slice a' k c'), (0, .slice a n c)] ∧ q = n - k ∧ k ≤ n ∧ St w No w' [ownL 134 5 encNV (.slice a' k c') (xs.take k)])
    (σ' := [(4, .int .i64 ((0 : Nat) : Int)), (3, .slice none 0 0), (0, .slice a n c)]) (n := n) ⟨rfl, rfl, rfl, trivial⟩ ⟨0, none, 0, rfl, rfl, Nat.zero_le _, hS⟩ ?_
  clear hS
  rintro _ w1 q ⟨k, a', c', rfl, rfl, hk, hS⟩
  (conv => whnf)
  refine brD (fun h3 => ?_) (fun h3 => ?_)
  · obtain ⟨b0, o0, x, hxk, _, rfl, hb0, hc⟩ := hx.at (k := k) (by omega)
    have hT : ¬ w.heap.size ≤ b0 := Nat.not_le.2 hb0
    have hlk : (xs.take k).length = k := by rw [List.length_take]; omega
    have hst : xs.take (k + 1) = xs.take k ++ [x] := by rw [List.take_add_one, hxk]; rfl
    (conv => whnf)
    (refine drawS tabOk mixed [] (fun b => w.heap.size ≤ b) [0, 1, 2, 3, 4, 5, 6, 7, 8, 9, 10, 11, 12, 13, 14, 15, 16, 17, 18, 19, 20, 21, 22, 23, 24, 25, 26, 27, 28, 29] (by kernel_rfl) ?_; rintro w1 rfl; replace hS := hS.drew)
    have hK := hS.ref (fun b => w.heap.size ≤ b)
    repeat' ((conv => whnf); first | refine IdxC.mk (by omega) (by omega) ?_ | refine hS.ldrF (hc.one 0 rfl) id hT ?_ | refine hS.ldrF (hc.one 1 rfl) id hT ?_ | refine hS.ldrF (hc.one 2 rfl) id hT ?_ | refine hS.ldrF (hc.one 3 rfl) id hT ?_ | refine hS.ldrF (hc.one 4 rfl) id hT ?_)
    refine hS.litX Tryz.underlying79 (sz := 5) (by kernel_rfl) (z := .agg (encNV noNV).toArray) (by kernel_rfl) rfl rfl (cs := encNV x) (by rfl) (fun b9 w3 hb9 hx3 hS => ?_)
    replace hK := hK.trans hx3.of_no
    refine KeepC.mk hK ?_
    clear hx3
    have hfr := hS.freshAt 0 rfl
    (conv => whnf)
    refine hS.appX codNote 0 (ys := [x]) (G := fun _ => True) Tryz.underlying79 (bytes := 56) (by kernel_rfl) (z := .agg (encNV noNV).toArray) (by kernel_rfl) rfl rfl (Slc.of_blk codNote (hS.blk 1 rfl) rfl (by simp) (fun _ _ => trivial) rfl) (by rw [hlk]; unfold maxLen; omega) (by rw [hlk]; omega) (fun a2 c2 w4 hx4 hS => ?_)
    replace hK := hK.trans (hx4.mono fun q h => (hfr q h).1)
    refine KeepC.mk hK ?_
    clear hx4 hK hfr
    rw [hlk] at hS ⊢
    replace hS := hS.keep 1
    replace hS : St w No w4 [ownL 134 5 encNV (.slice a2 (k + 1) c2) (xs.take (k + 1))] := by rw [hst]; exact hS
    (conv => whnf)
    refine RngC.mk (by omega) (by omega) ?_
    (conv => whnf)
    refine LoopE.mk ⟨_, [(4, .int .i64 ((k + 1 : Nat) : Int)), (3, _), (0, _)], ?_, ⟨rfl, rfl, rfl, trivial⟩, ⟨k + 1, a2, c2, rfl, rfl, by omega, hS⟩⟩
    omega
  · obtain rfl : k = n := by omega
    rw [List.take_of_length_le (by omega)] at hS
    repeat' ((conv => whnf); first | refine RetC.mk ?_ | refine NzC.mk (by decide) ?_ | refine RngC.mk (by omega) (by omega) ?_ | refine IdxC.mk (by omega) (by omega) ?_ | refine brD (fun _ => ?_) (fun _ => ?_) | refine brND (fun _ => ?_) (fun _ => ?_) | refine brN (fun _ => ?_) (fun _ => ?_) | refine brI (fun _ => ?_) (fun _ => ?_))
    exact ⟨a', c', rfl, hS.ext, hS.get 0 rfl, hS.freshAt 0 rfl⟩
/-- Two rows of notes that say the same. -/
def SameN (w : World) (xs ys : List NoteV) : Prop := ∀ (k : Nat) (x y : NoteV), xs[k]? = some x → ys[k]? = some y → x.fro = y.fro ∧ x.life = y.life ∧ x.epoch = y.epoch ∧ x.claim = y.claim ∧ ∃ cs, Slc w 10 encCell (fun _ => True) x.a x.n cs ∧ Slc w 10 encCell (fun _ => True) y.a y.n cs
theorem sameNotes_ok {G : NoteV → Prop} {a b : Option Addr} {n c d : Nat} {xs ys : List NoteV} (hx : Slc w 5 encNV G a n xs) (hy : Slc w 5 encNV G b n ys) (hs : SameN w xs ys) :
    CallC Tryz.prog 35 #[.slice a n c, .slice b n d] w fun v w' => v = .bool true ∧ Ext No w w' := by
  have hmax := hx.max
  refine fn_intro tabOk Tryz.func35 (by kernel_rfl) rfl Tryz.ntmps35 (Nat.le_of_ble_eq_true rfl) ?_
  have hS := St.start w No
  (conv => whnf)
  refine brND (fun h => absurd rfl h) (fun _ => ?_)
  (conv => whnf)
  refine loopR tabOk (fun σ w' q => ∃ k : Nat, σ = [(5, .int .i64 k), (1, .slice b n d), (0, .slice a n c)] ∧ q = n - k ∧ k ≤ n ∧ St w No w' [])
    (σ' := [(5, .int .i64 ((0 : Nat) : Int)), (1, .slice b n d), (0, .slice a n c)]) (n := n) ⟨rfl, rfl, rfl, trivial⟩ ⟨0, rfl, rfl, Nat.zero_le _, hS⟩ ?_
  clear hS
  rintro _ w1 q ⟨k, rfl, rfl, hk, hS⟩
  (conv => whnf)
  refine brD (fun h3 => ?_) (fun h3 => ?_)
  · obtain ⟨b0, o0, ⟨f1, l1, e1, cl1, xa, xn, xc⟩, hxk, _, rfl, _, hc⟩ := hx.at (k := k) (by omega)
    obtain ⟨b1, o1, ⟨f2, l2, e2, cl2, ya, yn, yc⟩, hyk, _, rfl, _, hd⟩ := hy.at (k := k) (by omega)
    obtain ⟨g1, g2, g3, g4, cs, g5, g6⟩ := hs k _ _ hxk hyk
    dsimp only at g1 g2 g3 g4 g5 g6
    subst g1 g2 g3 g4
    (conv => whnf)
    (refine drawS tabOk mixed [] No [0, 1, 2, 3, 4, 5, 6, 7, 8, 9, 10, 11, 12, 13, 14, 15, 16, 17, 18, 19, 20, 21, 22, 23, 24, 25, 26, 27, 28, 29, 30, 31, 32, 33, 34, 35, 36, 37, 38, 39, 40, 41, 42, 43, 44, 45, 46, 47, 48, 49, 50, 51, 52, 53, 54, 55, 56, 57, 58, 59, 60, 61, 62, 63] (by kernel_rfl) ?_; rintro w1 rfl; replace hS := hS.drew)
    repeat' ((conv => whnf); first | refine IdxC.mk (by omega) (by omega) ?_ | refine hS.ldrF (hc.one 0 rfl) id id ?_ | refine hS.ldrF (hc.one 1 rfl) id id ?_ | refine hS.ldrF (hc.one 2 rfl) id id ?_ | refine hS.ldrF (hc.one 3 rfl) id id ?_ | refine hS.ldrF (hc.one 4 rfl) id id ?_ | refine hS.ldrF (hd.one 0 rfl) id id ?_ | refine hS.ldrF (hd.one 1 rfl) id id ?_ | refine hS.ldrF (hd.one 2 rfl) id id ?_ | refine hS.ldrF (hd.one 3 rfl) id id ?_ | refine hS.ldrF (hd.one 4 rfl) id id ?_ | refine brND (fun h => absurd rfl h) (fun _ => ?_))
    obtain rfl : xn = yn := g5.len.symm.trans g6.len
    refine (sameCells_same (g5.no hS.ext) (g6.no hS.ext)).mono ?_
    rintro v w2 ⟨rfl, hx2⟩
    refine KeepC.mk hx2 ?_
    replace hS := hS.no hx2
    (conv => whnf)
    refine RngC.mk (by omega) (by omega) ?_
    (conv => whnf)
    refine LoopE.mk ⟨_, [(5, .int .i64 ((k + 1 : Nat) : Int)), (1, _), (0, _)], ?_, ⟨rfl, rfl, rfl, trivial⟩, ⟨k + 1, rfl, rfl, by omega, hS⟩⟩
    omega
  · obtain rfl : k = n := by omega
    repeat' ((conv => whnf); first | refine RetC.mk ?_ | refine NzC.mk (by decide) ?_ | refine RngC.mk (by omega) (by omega) ?_ | refine IdxC.mk (by omega) (by omega) ?_ | refine brD (fun _ => ?_) (fun _ => ?_) | refine brND (fun _ => ?_) (fun _ => ?_) | refine brN (fun _ => ?_) (fun _ => ?_) | refine brI (fun _ => ?_) (fun _ => ?_))
    exact ⟨rfl, hS.ext⟩
end
end Go.Proofs.YtoaghhcjlfiflaaGreatDoor

/-
  What the laws about worlds share: events and notes told, things that are new.
-/
namespace Go.Proofs.YtoaghhcjlfiflaaGreatDoor
open Go Ev
theorem Ev.Slc.imp {α : Type} {w : World} {sz n : Nat} {enc : α → List Value} {G G' : α → Prop} {a : Option Addr} {xs : List α} (h : Slc w sz enc G a n xs) (hg : ∀ x, G x → G' x) : Slc w sz enc G' a n xs := ⟨h.len, h.max, h.cells, fun x hx => hg x (h.good x hx)⟩
/-- New things join what is known. -/
theorem Ev.St.madeAll {w0 w w' : World} {S : Nat → Prop} {H L : List Ent} (h : St w0 S w H) (hx : Ext No w w') (hL : Has w' L) (hf : ∀ b, inF L b → w.heap.size ≤ b) : St w0 S w' (H ++ L) := by
  have h1 := h.no hx
  refine ⟨h1.ext, ?_, ?_, ?_, ?_⟩
  · intro e he
    rcases List.mem_append.1 he with he | he
    · exact h1.each e he
    · exact hL.each e he
  · intro e he
    rcases List.mem_append.1 he with he | he
    · exact h1.loc e he
    · exact hL.loc e he
  · intro e he b hb
    rcases List.mem_append.1 he with he | he
    · exact h1.may e he b hb
    · exact ⟨.inr (Nat.le_trans h.ext.size (hf b ⟨e, he, hb⟩)), hL.lt e he b hb⟩
  · refine List.pairwise_append.2 ⟨h1.apart, hL.apart, fun e he f hf' b hb hb' => ?_⟩
    have h2 := (h.may e he b hb).2
    have h3 := hf b ⟨f, hf', hb'⟩
    omega
theorem Ev.St.frontOut {w0 w : World} {S : Nat → Prop} {e : Ent} {H : List Ent} (h : St w0 S w (e :: H)) {b : Nat} (hb : b ∈ e.foot) : ¬ inF H b := by
  rintro ⟨f, hf, hbf⟩
  exact (List.pairwise_cons.1 h.apart).1 f hf b hb hbf
theorem Ev.St.rowOut {w0 w : World} {S : Nat → Prop} {e : Ent} {P L R : List Ent} (h : St w0 S w ((e :: P) ++ (L ++ R))) {b : Nat} (hb : b ∈ e.foot) : ¬ inF L b := fun hl => h.frontOut hb (inF_app.2 (.inr (inF_app.2 (.inl hl))))
theorem Ev.St.new_high {w0 w : World} {H : List Ent} (h : St w0 No w H) {b : Nat} (hb : inF H b) : w0.heap.size ≤ b := by
  obtain ⟨e, he, hb⟩ := hb
  exact (h.may e he b hb).1.elim (fun h => h.elim) id
section
variable {w w' : World}
theorem backEvents_ok {G : Int × Int → Prop} {a : Option Addr} {n c : Nat} {xs : List (Int × Int)} (hx : Slc w 2 encEv G a n xs) (hn : n ≤ 2000) :
    CallC Tryz.prog 39 #[.slice a n c] w fun v w' => ∃ a' c', v = .slice a' n c' ∧ Ext No w w' ∧ (ownL 135 2 encEv v xs).holds w' ∧ Fresh w w' v := by
  have hl := hx.len
  refine fn_intro tabOk Tryz.func39 (by kernel_rfl) rfl Tryz.ntmps39 (Nat.le_of_ble_eq_true rfl) ?_
  have hS := (St.start w No).addNil 135 2 encEv
  (conv => whnf)
  refine loopR tabOk (fun σ w' q => ∃ (k : Nat) (a' : Option Addr) (c' : Nat), σ = [(4, .int .i64 k), (3, .slice a' k c'), (0, .slice a n c)] ∧ q = n - k ∧ k ≤ n ∧ St w No w' [ownL 135 2 encEv (.slice a' k c') (xs.take k)])
    (σ' := [(4, .int .i64 ((0 : Nat) : Int)), (3, .slice none 0 0), (0, .slice a n c)]) (n := n) ⟨rfl, rfl, rfl, trivial⟩ ⟨0, none, 0, rfl, rfl, Nat.zero_le _, hS⟩ ?_
  clear hS
  rintro _ w1 q ⟨k, a', c', rfl, rfl, hk, hS⟩
  (conv => whnf)
  refine brD (fun h3 => ?_) (fun h3 => ?_)
  · obtain ⟨b0, o0, x, hxk, _, rfl, hb0, hc⟩ := hx.at (k := k) (by omega)
    have hT : ¬ w.heap.size ≤ b0 := Nat.not_le.2 hb0
    have hlk : (xs.take k).length = k := by rw [List.length_take]; omega
    have hst : xs.take (k + 1) = xs.take k ++ [x] := by rw [List.take_add_one, hxk]; rfl
    (conv => whnf)
    (refine drawS tabOk mixed [] (fun b => w.heap.size ≤ b) [0, 1, 2, 3, 4, 5, 6, 7, 8, 9, 10, 11, 12, 13, 14] (by kernel_rfl) ?_; rintro w1 rfl; replace hS := hS.drew)
    have hK := hS.ref (fun b => w.heap.size ≤ b)
    repeat' ((conv => whnf); first | refine IdxC.mk (by omega) (by omega) ?_ | refine hS.ldrF (hc.one 0 rfl) id hT ?_ | refine hS.ldrF (hc.one 1 rfl) id hT ?_)
    refine hS.litX Tryz.underlying84 (sz := 2) (by kernel_rfl) (z := .agg (encEv (0, 0)).toArray) (by kernel_rfl) rfl rfl (cs := encEv x) (by rfl) (fun b9 w3 hb9 hx3 hS => ?_)
    replace hK := hK.trans hx3.of_no
    refine KeepC.mk hK ?_
    clear hx3
    have hfr := hS.freshAt 0 rfl
    (conv => whnf)
    refine hS.appX codEv 0 (ys := [x]) (G := fun _ => True) Tryz.underlying84 (bytes := 16) (by kernel_rfl) (z := .agg (encEv (0, 0)).toArray) (by kernel_rfl) rfl rfl (Slc.of_blk codEv (hS.blk 1 rfl) rfl (by simp) (fun _ _ => trivial) rfl) (by rw [hlk]; unfold maxLen; omega) (by rw [hlk]; omega) (fun a2 c2 w4 hx4 hS => ?_)
    replace hK := hK.trans (hx4.mono fun q h => (hfr q h).1)
    refine KeepC.mk hK ?_
    clear hx4 hK hfr
    rw [hlk] at hS ⊢
    replace hS := hS.keep 1
    replace hS : St w No w4 [ownL 135 2 encEv (.slice a2 (k + 1) c2) (xs.take (k + 1))] := by rw [hst]; exact hS
    (conv => whnf)
    refine RngC.mk (by omega) (by omega) ?_
    (conv => whnf)
    refine LoopE.mk ⟨_, [(4, .int .i64 ((k + 1 : Nat) : Int)), (3, _), (0, _)], ?_, ⟨rfl, rfl, rfl, trivial⟩, ⟨k + 1, a2, c2, rfl, rfl, by omega, hS⟩⟩
    omega
  · obtain rfl : k = n := by omega
    rw [List.take_of_length_le (by omega)] at hS
    repeat' ((conv => whnf); first | refine RetC.mk ?_ | refine NzC.mk (by decide) ?_ | refine RngC.mk (by omega) (by omega) ?_ | refine IdxC.mk (by omega) (by omega) ?_ | refine brD (fun _ => ?_) (fun _ => ?_) | refine brND (fun _ => ?_) (fun _ => ?_) | refine brN (fun _ => ?_) (fun _ => ?_) | refine brI (fun _ => ?_) (fun _ => ?_))
    exact ⟨a', c', rfl, hS.ext, hS.get 0 rfl, hS.freshAt 0 rfl⟩
theorem neEv {x : Int × Int} {k : Value → Prop} (hk : k (.bool false)) :
    PureC Tryz.prog (do eqGuard .neq 135 (.tmp 0) (.tmp 0) (.agg (encEv x).toArray) (.agg (encEv x).toArray); Go.binOp .neq 135 (.agg (encEv x).toArray) (.agg (encEv x).toArray)) k :=
  neS (a := [.int x.1, .int x.2]) (b := [.int x.1, .int x.2]) (ks := [.int, .int]) (by kernel_rfl) (by kernel_rfl) (by kernel_rfl) rfl rfl (by simpa using hk)
theorem sameEvents_ok {G G' : Int × Int → Prop} {a b : Option Addr} {n c d : Nat} {xs : List (Int × Int)} (hx : Slc w 2 encEv G a n xs) (hy : Slc w 2 encEv G' b n xs) :
    CallC Tryz.prog 38 #[.slice a n c, .slice b n d] w fun v w' => v = .bool true ∧ Ext No w w' := by
  have hmax := hx.max
  refine fn_intro tabOk Tryz.func38 (by kernel_rfl) rfl Tryz.ntmps38 (Nat.le_of_ble_eq_true rfl) ?_
  have hS := St.start w No
  (conv => whnf)
  refine brND (fun h => absurd rfl h) (fun _ => ?_)
  (conv => whnf)
  refine loopR tabOk (fun σ w' q => ∃ k : Nat, σ = [(5, .int .i64 k), (1, .slice b n d), (0, .slice a n c)] ∧ q = n - k ∧ k ≤ n ∧ St w No w' [])
    (σ' := [(5, .int .i64 ((0 : Nat) : Int)), (1, .slice b n d), (0, .slice a n c)]) (n := n) ⟨rfl, rfl, rfl, trivial⟩ ⟨0, rfl, rfl, Nat.zero_le _, hS⟩ ?_
  clear hS
  rintro _ w1 q ⟨k, rfl, rfl, hk, hS⟩
  (conv => whnf)
  refine brD (fun h3 => ?_) (fun h3 => ?_)
  · obtain ⟨b0, o0, x, hxk, _, rfl, _, hc⟩ := hx.at (k := k) (by omega)
    obtain ⟨b1, o1, y, hyk, _, rfl, _, hd⟩ := hy.at (k := k) (by omega)
    obtain rfl : x = y := Option.some.inj (hxk.symm.trans hyk)
    (conv => whnf)
    (refine drawS tabOk mixed [] No [0, 1, 2, 3, 4, 5, 6, 7, 8] (by kernel_rfl) ?_; rintro w1 rfl; replace hS := hS.drew)
    (conv => whnf)
    refine IdxC.mk (by omega) (by omega) ?_
    (conv => whnf)
    refine hS.larF rfl hc id id ?_
    (conv => whnf)
    refine IdxC.mk (by omega) (by omega) ?_
    (conv => whnf)
    refine hS.larF rfl hd id id ?_
    (conv => whnf)
    refine neEv ?_
    (conv => whnf)
    refine RngC.mk (by omega) (by omega) ?_
    (conv => whnf)
    refine LoopE.mk ⟨_, [(5, .int .i64 ((k + 1 : Nat) : Int)), (1, _), (0, _)], ?_, ⟨rfl, rfl, rfl, trivial⟩, ⟨k + 1, rfl, rfl, by omega, hS⟩⟩
    omega
  · obtain rfl : k = n := by omega
    repeat' ((conv => whnf); first | refine RetC.mk ?_ | refine NzC.mk (by decide) ?_ | refine RngC.mk (by omega) (by omega) ?_ | refine IdxC.mk (by omega) (by omega) ?_ | refine brD (fun _ => ?_) (fun _ => ?_) | refine brND (fun _ => ?_) (fun _ => ?_) | refine brN (fun _ => ?_) (fun _ => ?_) | refine brI (fun _ => ?_) (fun _ => ?_))
    exact ⟨rfl, hS.ext⟩
/-- Notes of two worlds that say the same. -/
theorem same_cells {w : World} {vs us : List NoteV} {ns : List NoteS} (h : (cellsE vs ns).holds w) (g : (cellsE us ns).holds w) : SameN w vs us := by
  intro k x y hx hy
  obtain ⟨z, hz⟩ : ∃ z, ns[k]? = some z := ⟨_, List.getElem?_eq_getElem (by have := (List.getElem?_eq_some_iff.1 hx).1; rw [h.1] at this; exact this)⟩
  obtain ⟨h1, h2⟩ := cellsE_get h hx hz
  obtain ⟨g1, g2⟩ := cellsE_get g hy hz
  exact ⟨h1.fro.trans g1.fro.symm, h1.life.trans g1.life.symm, h1.epoch.trans g1.epoch.symm, h1.claim.trans g1.claim.symm, z.cells, h2, g2⟩
theorem St.stands {E : Nat → Addr} {m : Nat} {w0 : World} {X : WorldA} {V : WorldS} {P R : List Ent} (hS : St w0 No w (P ++ (worldH X V ++ R))) (hE : Errs w0 E w0.heap.size insErrs) (ok : WOk m V) : Stands E w0.heap.size m w X V :=
  ⟨hS.has.right.left, ok, hE.ext hS.ext fun _ h => h.elim, fun _ hb => hS.new_high (inF_app.2 (.inr (inF_app.2 (.inl hb))))⟩
theorem St.stands2 {E : Nat → Addr} {m : Nat} {w0 : World} {X : WorldA} {V : WorldS} {P R : List Ent} (hS : St w0 No w (P ++ (R ++ worldH X V))) (hE : Errs w0 E w0.heap.size insErrs) (ok : WOk m V) : Stands E w0.heap.size m w X V :=
  ⟨hS.has.right.right, ok, hE.ext hS.ext fun _ h => h.elim, fun _ hb => hS.new_high (inF_app.2 (.inr (inF_app.2 (.inr hb))))⟩
theorem handle_lt (h : Handle w) : 11 < w.heap.size := cell_lt h
theorem codes_of {E : Nat → Addr} {w0 : World} (hE : Errs w0 E w0.heap.size allErrs) (hh : Handle w0) (hx : Ext No w0 w) : Codes E w0.heap.size w := ⟨hE.ext hx fun _ h => h.elim, hh.ext hx, handle_lt hh⟩
theorem ownL_cap {α : Type} {e : TypeId} {sz n c : Nat} {enc : α → List Value} {a : Option Addr} {xs : List α} (h : (ownL e sz enc (.slice a n c) xs).holds w) : n ≤ c := by
  rcases own_blk h with ⟨_, h1, _, h2, _⟩ | ⟨_, _, _, h1, _, h2, _⟩
  · omega
  · omega
theorem Ev.St.rowFirst {α : Type} {w0 w : World} {S : Nat → Prop} {H : List Ent} (h : St w0 S w H) (e : TypeId) (sz : Nat) (enc : α → List Value) : St w0 S w ([ownL e sz enc (.slice none 0 0) []] ++ H) := (h.addNil e sz enc).perm List.perm_append_comm
theorem dec_ruleW {d : Nat} (hd : 10 ≤ d) : Dec Tryz.prog w d 92 encRule (fun _ => True) := by
  intro cs h
  have h1 : flatK Tryz.prog 10 92 = some [.bool, .bool, .int, .int, .int] := by kernel_rfl
  have h2 : Tryz.prog.cellsOf 92 = 5 := by kernel_rfl
  obtain ⟨ps, rfl, hk, hok⟩ := shp_flat 10 d _ _ cs h1 hd h2 h
  obtain ⟨p1, r, rfl, g1, hk⟩ := kinds_cons hk
  obtain ⟨p2, r, rfl, g2, hk⟩ := kinds_cons hk
  obtain ⟨p3, r, rfl, g3, hk⟩ := kinds_cons hk
  obtain ⟨p4, r, rfl, g4, hk⟩ := kinds_cons hk
  obtain ⟨p5, r, rfl, g5, hk⟩ := kinds_cons hk
  obtain rfl := kinds_nil hk
  obtain ⟨n1, rfl⟩ := k_bool g1
  obtain ⟨n2, rfl⟩ := k_bool g2
  obtain ⟨n3, rfl⟩ := k_int g3
  obtain ⟨n4, rfl⟩ := k_int g4
  obtain ⟨n5, rfl⟩ := k_int g5
  exact ⟨⟨n1, n2, n3, n4, n5⟩, rfl, trivial⟩
end
end Go.Proofs.YtoaghhcjlfiflaaGreatDoor

/-
  The law PlayAgain, walked: the same script makes the same play.
-/
namespace Go.Proofs.YtoaghhcjlfiflaaGreatDoor
open Go Ev
theorem playAgain_ok {E : Nat → Addr} (W : World) (hE : Errs W E W.heap.size allErrs) (hh : Handle W) (a0 : Option Addr) (n0 c0 : Nat) (rules : List RuleS) (hr : Slc W 5 encRule (fun _ => True) a0 n0 rules) (a1 : Option Addr) (n1 c1 : Nat) (ys : List Int) (hy : Slc W 1 encI (fun v => v ≤ 9223372036854775807) a1 n1 ys) (hnc : n1 ≤ c1) (cut : Int) :
    CallC Tryz.prog 7 #[.slice a0 n0 c0, .slice a1 n1 c1, .int .i64 cut] W fun v w' => v = .bool true ∧ Ext No W w' := by
  have hE2 : Errs W E W.heap.size insErrs := hE.sub rfl
  obtain rfl := hr.len
  have hl1 := hy.len
  have hm1 := hy.max
  have hm0 := hr.max
  refine fn_intro tabOk Tryz.func7 (by kernel_rfl) rfl Tryz.ntmps7 (Nat.le_of_ble_eq_true rfl) ?_
  (conv => whnf)
  refine (born_ok' hE2 (Nat.le_refl _)).mono ?_
  rintro v w1 ⟨rfl, hx⟩
  (conv => whnf)
  refine brD (fun h1 => ?_) (fun h1 => ?_)
  · repeat' ((conv => whnf); first | refine RetC.mk ?_ | refine NzC.mk (by decide) ?_ | refine RngC.mk (by omega) (by omega) ?_ | refine IdxC.mk (by omega) (by omega) ?_ | refine brD (fun _ => ?_) (fun _ => ?_) | refine brND (fun _ => ?_) (fun _ => ?_) | refine brN (fun _ => ?_) (fun _ => ?_) | refine brI (fun _ => ?_) (fun _ => ?_))
    exact ⟨rfl, hx⟩
  (conv => whnf)
  refine brD (fun h2 => ?_) (fun h2 => ?_)
  · repeat' ((conv => whnf); first | refine RetC.mk ?_ | refine NzC.mk (by decide) ?_ | refine RngC.mk (by omega) (by omega) ?_ | refine IdxC.mk (by omega) (by omega) ?_ | refine brD (fun _ => ?_) (fun _ => ?_) | refine brND (fun _ => ?_) (fun _ => ?_) | refine brN (fun _ => ?_) (fun _ => ?_) | refine brI (fun _ => ?_) (fun _ => ?_))
    exact ⟨rfl, hx⟩
  (conv => whnf)
  refine brD (fun h3 => ?_) (fun h3 => ?_)
  · repeat' ((conv => whnf); first | refine RetC.mk ?_ | refine NzC.mk (by decide) ?_ | refine RngC.mk (by omega) (by omega) ?_ | refine IdxC.mk (by omega) (by omega) ?_ | refine brD (fun _ => ?_) (fun _ => ?_) | refine brND (fun _ => ?_) (fun _ => ?_) | refine brN (fun _ => ?_) (fun _ => ?_) | refine brI (fun _ => ?_) (fun _ => ?_))
    exact ⟨rfl, hx⟩
  (conv => whnf)
  refine brD (fun h4 => ?_) (fun h4 => ?_)
  · repeat' ((conv => whnf); first | refine RetC.mk ?_ | refine NzC.mk (by decide) ?_ | refine RngC.mk (by omega) (by omega) ?_ | refine IdxC.mk (by omega) (by omega) ?_ | refine brD (fun _ => ?_) (fun _ => ?_) | refine brND (fun _ => ?_) (fun _ => ?_) | refine brN (fun _ => ?_) (fun _ => ?_) | refine brI (fun _ => ?_) (fun _ => ?_))
    exact ⟨rfl, hx⟩
  obtain ⟨k, rfl⟩ : ∃ k : Nat, cut = k := ⟨cut.toNat, by omega⟩
  (conv => whnf)
  refine (rulesFault_ok (hr.no hx)).mono ?_
  rintro v w2 ⟨rfl, hx2⟩
  replace hx := hx.trans hx2
  (conv => whnf)
  refine brD (fun h5 => ?_) (fun h5 => ?_)
  · repeat' ((conv => whnf); first | refine RetC.mk ?_ | refine NzC.mk (by decide) ?_ | refine RngC.mk (by omega) (by omega) ?_ | refine IdxC.mk (by omega) (by omega) ?_ | refine brD (fun _ => ?_) (fun _ => ?_) | refine brND (fun _ => ?_) (fun _ => ?_) | refine brN (fun _ => ?_) (fun _ => ?_) | refine brI (fun _ => ?_) (fun _ => ?_))
    exact ⟨rfl, hx⟩
  have h0 : (faultL rules).1 = 0 := by omega
  clear hx2 h5
  (conv => whnf)
  refine (ownRules_ok (hr.no hx) (by omega)).mono ?_
  rintro v w3 ⟨a3, c3, rfl, hx3, ho3, _⟩
  replace hx := hx.trans hx3
  have hr3 := ownL_slc (G := fun _ => True) codRule ho3 (fun _ _ => trivial)
  (conv => whnf)
  refine (wnew_ok hr3 (by omega) (hE2.ext hx fun _ h => h.elim) hx.size h0).mono ?_
  rintro v w4 ⟨A, rfl, hx4, hst4, hf4⟩
  have hS : St W No w4 (worldH A (.born rules)) := ((St.start W No).no hx).madeAll hx4 hst4.has hf4
  have hok := hst4.ok
  clear hst4 hf4 hx3 ho3 hr3
  (conv => whnf)
  refine (ownRules_ok (hr.no hS.ext) (by omega)).mono ?_
  rintro v w5 ⟨a5, c5, rfl, hx5, ho5, _⟩
  replace hS := hS.no hx5
  have hr5 := ownL_slc (G := fun _ => True) codRule ho5 (fun _ _ => trivial)
  (conv => whnf)
  refine (wnew_ok hr5 (by omega) (hE2.ext hS.ext fun _ h => h.elim) hS.ext.size h0).mono ?_
  rintro v w6 ⟨B, rfl, hx6, hst6, hf6⟩
  replace hS := hS.madeAll hx6 hst6.has hf6
  clear hst6 hf6 hx6 ho5 hr5 hx hx4 hx5
  generalize WorldS.born rules = V at hS hok
  (conv => whnf)
  replace hS := hS.rowFirst 3 1 encI
  refine hS.appS codInt 0 (xs := []) Tryz.underlying62 (bytes := 8) (by kernel_rfl) (z := .int .i64 0) (by kernel_rfl) rfl rfl (hy.no hS.ext) (by unfold maxLen; simp; omega) (by simp; omega) (fun a7 c7 w7 hS => ?_)
  rw [show ([] : List Int).length + n1 = n1 by simp] at hS ⊢
  replace hS := hS.as (H' := [ownL 3 1 encI (.slice a7 n1 c7) ys] ++ (worldH A V ++ worldH B V)) rfl
  have hgd : ∀ x ∈ ys, x ≤ 9223372036854775807 := hy.good
  (conv => whnf)
  refine (prun_ok (m := 0) (ownL_slc codInt (hS.get 0 rfl) hgd) (by omega) (ownL_cap (hS.get 0 rfl)) (fun _ b0 o0 ha hb => hS.rowOut (foot_own (by rw [ha]; rfl)) hb) (St.stands hS hE2 hok) (codes_of hE hh hS.ext) (by omega)).mono ?_
  rintro v w8 ⟨a8, c8, A2, rfl, hA2, hk⟩
  replace hS := (St.callAt (A := [_]) (H := worldH A V) (B := worldH B V) hS hk).as (H' := [ownL 3 1 encI (.slice a7 n1 c7) ys, ownL 3 1 encI (.slice a8 n1 c8) (V.run ys).1] ++ (worldH A2 (V.run ys).2 ++ worldH B V)) rfl
  clear hk
  -- the second play, cut
  have hy1 := hy.no hS.ext
  (conv => whnf)
  refine slcHead hy1 hnc Tryz.underlying62 (by kernel_rfl) rfl (by omega) (fun a9 c9 hy9 => ?_)
  (conv => whnf)
  replace hS := hS.rowFirst 3 1 encI
  refine hS.appS codInt 0 (xs := []) Tryz.underlying62 (bytes := 8) (by kernel_rfl) (z := .int .i64 0) (by kernel_rfl) rfl rfl hy9 (by unfold maxLen; simp; omega) (by simp; omega) (fun a10 c10 w10 hS => ?_)
  rw [show ([] : List Int).length + k = k by simp] at hS ⊢
  replace hS := (hS.as (H' := [ownL 3 1 encI (.slice a10 k c10) (ys.take k), ownL 3 1 encI (.slice a7 n1 c7) ys, ownL 3 1 encI (.slice a8 n1 c8) (V.run ys).1] ++ (worldH A2 (V.run ys).2 ++ worldH B V)) rfl).perm (List.Perm.append_left _ List.perm_append_comm)
  (conv => whnf)
  refine (prun_ok (m := 0) (ownL_slc codInt (hS.get 0 rfl) (fun x hx => hgd x (List.mem_of_mem_take hx))) (by omega) (ownL_cap (hS.get 0 rfl)) (fun _ b0 o0 ha hb => hS.rowOut (foot_own (by rw [ha]; rfl)) hb) (St.stands hS hE2 hok) (codes_of hE hh hS.ext) (by omega)).mono ?_
  rintro v w11 ⟨a11, c11, B2, rfl, hB2, hk⟩
  replace hS := (St.callAt (A := [_, _, _]) (H := worldH B V) (B := worldH A2 (V.run ys).2) hS hk).as (H' := [ownL 3 1 encI (.slice a10 k c10) (ys.take k), ownL 3 1 encI (.slice a7 n1 c7) ys, ownL 3 1 encI (.slice a8 n1 c8) (V.run ys).1, ownL 3 1 encI (.slice a11 k c11) (V.run (ys.take k)).1] ++ (worldH B2 (V.run (ys.take k)).2 ++ worldH A2 (V.run ys).2)) rfl
  clear hk
  have hlt : (ys.take k).length = k := by rw [List.length_take]; omega
  have hok1 := runs_ok (ys.take k) hok (by rw [hlt]; omega)
  rw [hlt] at hok1
  have hrun : V.run ys = ((V.run (ys.take k)).1 ++ ((V.run (ys.take k)).2.run (ys.drop k)).1, ((V.run (ys.take k)).2.run (ys.drop k)).2) := by
    rw [← run_app, List.take_append_drop]
  have hokA := runs_ok ys hok (by rw [hl1]; omega)
  (conv => whnf)
  refine slcTail hy hnc Tryz.underlying62 (by kernel_rfl) (by kernel_rfl) rfl (by omega) (fun a12 c12 hy12 hc12 => ?_)
  (conv => whnf)
  rw [← hB2]
  refine (prun_ok (m := 0 + k * 340) (hy12.no hS.ext) (by omega) hc12 (fun h0 b0 o0 ha hb => ?_) (St.stands hS hE2 hok1) (codes_of hE hh hS.ext) (by omega)).mono ?_
  · obtain ⟨b1, o1, x, _, _, h3, h6, _⟩ := hy12.at h0
    rw [ha] at h3
    simp only [Option.some.injEq, Addr.mk.injEq] at h3
    obtain ⟨rfl, _⟩ := h3
    have := hS.new_high (inF_app.2 (.inr (inF_app.2 (.inl hb))))
    omega
  rintro v w13 ⟨a13, c13, B3, rfl, hB3, hk⟩
  replace hS := (St.callAt (A := [_, _, _, _]) (H := worldH B2 (V.run (ys.take k)).2) (B := worldH A2 (V.run ys).2) hS hk).as (H' := [ownL 3 1 encI (.slice a10 k c10) (ys.take k), ownL 3 1 encI (.slice a7 n1 c7) ys, ownL 3 1 encI (.slice a8 n1 c8) (V.run ys).1, ownL 3 1 encI (.slice a11 k c11) (V.run (ys.take k)).1, ownL 3 1 encI (.slice a13 (n1 - k) c13) ((V.run (ys.take k)).2.run (ys.drop k)).1] ++ (worldH B3 ((V.run (ys.take k)).2.run (ys.drop k)).2 ++ worldH A2 (V.run ys).2)) rfl
  clear hk
  have hlr : (V.run (ys.take k)).1.length = k := by rw [run_len, hlt]
  (conv => whnf)
  refine hS.appS codInt 3 Tryz.underlying62 (bytes := 8) (by kernel_rfl) (z := .int .i64 0) (by kernel_rfl) rfl rfl (ownL_slc (G := fun _ => True) codInt (hS.get 4 rfl) (fun _ _ => trivial)) (by rw [hlr]; unfold maxLen; omega) (by rw [hlr]; omega) (fun a14 c14 w14 hS => ?_)
  rw [hlr] at hS ⊢
  rw [show k + (n1 - k) = n1 by omega] at hS ⊢
  replace hS := hS.as (H' := [ownL 3 1 encI (.slice a10 k c10) (ys.take k), ownL 3 1 encI (.slice a7 n1 c7) ys, ownL 3 1 encI (.slice a8 n1 c8) (V.run ys).1, ownL 3 1 encI (.slice a14 n1 c14) ((V.run (ys.take k)).1 ++ ((V.run (ys.take k)).2.run (ys.drop k)).1), ownL 3 1 encI (.slice a13 (n1 - k) c13) ((V.run (ys.take k)).2.run (ys.drop k)).1] ++ (worldH B3 ((V.run (ys.take k)).2.run (ys.drop k)).2 ++ worldH A2 (V.run ys).2)) rfl
  rw [show (V.run (ys.take k)).1 ++ ((V.run (ys.take k)).2.run (ys.drop k)).1 = (V.run ys).1 by rw [hrun], show ((V.run (ys.take k)).2.run (ys.drop k)).2 = (V.run ys).2 by rw [hrun]] at hS
  generalize V.run ys = R at hS hokA
  (conv => whnf)
  refine (sameInts_ok (ownL_slc (G := fun _ => True) codInt (hS.get 2 rfl) (fun _ _ => trivial)) (ownL_slc (G := fun _ => True) codInt (hS.get 3 rfl) (fun _ _ => trivial))).mono ?_
  rintro v w15 ⟨rfl, hx15⟩
  replace hS := hS.no hx15
  clear hx15
  rw [show decide (R.1 = R.1) = true by simp]
  rw [← hA2, ← hB3]
  have hfl := hokA.fly
  have hev := hokA.events
  (conv => whnf)
  refine (wflying_ok (St.stands2 hS hE2 hokA)).mono ?_
  rintro v w16 ⟨a16, c16, vs, rfl, hx16, hv⟩
  replace hS := hS.no hx16
  (conv => whnf)
  refine (backNotes_ok (ownL_slc (G := fun _ => True) codNote (hv.get 0 rfl) (fun _ _ => trivial)) (by omega)).mono ?_
  rintro v w17 ⟨a17, c17, rfl, hx17, ho17, _⟩
  replace hS := hS.no hx17
  have hc17 : (cellsE vs R.2.fly).holds w17 := (hv.read hx17).get 1 rfl
  have hs17 := ownL_slc (G := fun _ => True) codNote ho17 (fun _ _ => trivial)
  (conv => whnf)
  refine (wflying_ok (St.stands hS hE2 hokA)).mono ?_
  rintro v w18 ⟨a18, c18, us, rfl, hx18, hu⟩
  replace hS := hS.no hx18
  (conv => whnf)
  refine (backNotes_ok (ownL_slc (G := fun _ => True) codNote (hu.get 0 rfl) (fun _ _ => trivial)) (by omega)).mono ?_
  rintro v w19 ⟨a19, c19, rfl, hx19, ho19, _⟩
  replace hS := hS.no hx19
  have hc19 : (cellsE us R.2.fly).holds w19 := (hu.read hx19).get 1 rfl
  have hs19 := ownL_slc (G := fun _ => True) codNote ho19 (fun _ _ => trivial)
  have hxx := hx18.trans hx19
  have hc17' : (cellsE vs R.2.fly).holds w19 := ((hv.read hx17).read hxx).get 1 rfl
  (conv => whnf)
  refine (sameNotes_ok (hs17.no hxx) hs19 (same_cells hc17' hc19)).mono ?_
  rintro v w20 ⟨rfl, hx20⟩
  replace hS := hS.no hx20
  clear hv hu hs17 hs19 hc17 hc19 hc17' ho17 ho19 hx16 hx17 hx18 hx19 hxx hx20
  (conv => whnf)
  refine (wevents_ok (St.stands2 hS hE2 hokA)).mono ?_
  rintro v w21 ⟨a21, c21, rfl, hx21, ho21, _⟩
  replace hS := hS.no hx21
  (conv => whnf)
  refine (backEvents_ok (ownL_slc (G := fun _ => True) codEv ho21 (fun _ _ => trivial)) (by omega)).mono ?_
  rintro v w22 ⟨a22, c22, rfl, hx22, ho22, _⟩
  replace hS := hS.no hx22
  have hs22 := ownL_slc (G := fun _ => True) codEv ho22 (fun _ _ => trivial)
  (conv => whnf)
  refine (wevents_ok (St.stands hS hE2 hokA)).mono ?_
  rintro v w23 ⟨a23, c23, rfl, hx23, ho23, _⟩
  replace hS := hS.no hx23
  (conv => whnf)
  refine (backEvents_ok (ownL_slc (G := fun _ => True) codEv ho23 (fun _ _ => trivial)) (by omega)).mono ?_
  rintro v w24 ⟨a24, c24, rfl, hx24, ho24, _⟩
  replace hS := hS.no hx24
  have hs24 := ownL_slc (G := fun _ => True) codEv ho24 (fun _ _ => trivial)
  (conv => whnf)
  refine (sameEvents_ok (hs22.no (hx23.trans hx24)) hs24).mono ?_
  rintro v w25 ⟨rfl, hx25⟩
  replace hS := hS.no hx25
  repeat' ((conv => whnf); first | refine RetC.mk ?_ | refine NzC.mk (by decide) ?_ | refine RngC.mk (by omega) (by omega) ?_ | refine IdxC.mk (by omega) (by omega) ?_ | refine brD (fun _ => ?_) (fun _ => ?_) | refine brND (fun _ => ?_) (fun _ => ?_) | refine brN (fun _ => ?_) (fun _ => ?_) | refine brI (fun _ => ?_) (fun _ => ?_))
  exact ⟨rfl, hS.ext⟩
theorem playAgain_walk {E : Nat → Addr} (W : World) (args : List Value) (hE : Errs W E W.heap.size allErrs) (hh : Handle W) (ha : ArgsOk Tryz.prog W [22, 62, 3] args) :
    CallC Tryz.prog 7 args.toArray W fun v w' => v = .bool true ∧ Ext No W w' := by
  obtain ⟨v0, args, rfl, h0, ha⟩ := ha.cons
  obtain ⟨v1, args, rfl, h1, ha⟩ := ha.cons
  obtain ⟨v2, args, rfl, h2, ha⟩ := ha.cons
  obtain rfl := ha.nil
  obtain ⟨c, hc⟩ : ∃ c, 10 ≤ c := ⟨10, Nat.le_refl _⟩
  obtain ⟨a0, n0, c0, xs, rfl, hx, _⟩ := arg_slice (d := c) (sz := 5) Tryz.underlying22 (by kernel_rfl) (by decide) (dec_ruleW hc) h0
  obtain ⟨a1, n1, c1, ys, rfl, hy, hnc⟩ := arg_slice (d := 1) (sz := 1) Tryz.underlying62 (by kernel_rfl) (by decide) (dec_int (d := 0) Tryz.underlying3) h1
  obtain ⟨cut, rfl, _⟩ := arg_int Tryz.underlying3 h2
  exact playAgain_ok W hE hh a0 n0 c0 xs hx a1 n1 c1 ys (hy.imp fun _ h => h.2) hnc cut
end Go.Proofs.YtoaghhcjlfiflaaGreatDoor
