
/-
  The reference's cell is written, and a text is laid into cell.Bytes, walked: both hands stand alike behind it.
-/
import Derived.Test.YteakdmngllfodaaDoorRefOpen
import Derived.Lib.BufferWrite
namespace Go.Proofs.YteakdmngllfodaaDoor
open Go Ev

theorem alike_write {R : RBy} {B : BytS} {p : Nat} {s : List UInt8} (h : Alike R B) (hp : p + s.length ≤ B.data.length) (hs : s ≠ []) : (R.write p s).1 = (B.write p s).1 ∧ Alike (R.write p s).2 (B.write p s).2 := by
  obtain ⟨rd, ro, rl, rb⟩ := R
  obtain ⟨bd, bo, bl⟩ := B
  obtain ⟨h1, h2, h3, h4⟩ := h
  dsimp only at h1 h2 h3 h4 hp
  subst h1 h2
  unfold RBy.write RBy.cutN RBy.offN
  dsimp only
  cases ro
  · cases rb
    · obtain rfl := h4 rfl
      rw [write_free s rd p hp]
      simp only [if_neg Bool.false_ne_true, Bool.false_eq_true, false_and, if_false, List.take_length]
      exact ⟨rfl, rfl, rfl, fun h => absurd h (by simp), fun _ => rfl⟩
    · obtain ⟨h5, h6⟩ := h3 rfl
      obtain ⟨n, rfl⟩ := Int.eq_ofNat_of_zero_le h6
      subst h5
      rw [write_bnd s rd p n hp]
      by_cases hn : s.length ≤ n
      · rw [if_pos hn]
        have hc : ¬ (true = true ∧ (n : Int) < (s.length : Int)) := by simp; omega
        have e1 : (if true = true ∧ (n : Int) < (s.length : Int) then (n : Int).toNat else s.length) = s.length := if_neg hc
        have e2 : (if true = true ∧ (n : Int) < (s.length : Int) then true else false) = false := if_neg hc
        rw [if_neg Bool.false_ne_true, if_neg Bool.false_ne_true, e1, e2, List.take_length]
        exact ⟨rfl, rfl, rfl, fun _ => ⟨rfl, by dsimp only; omega⟩, fun h => absurd h (by simp)⟩
      · rw [if_neg hn]
        have hc : true = true ∧ (n : Int) < (s.length : Int) := ⟨rfl, by omega⟩
        have e1 : (if true = true ∧ (n : Int) < (s.length : Int) then (n : Int).toNat else s.length) = n := (if_pos hc).trans (Int.toNat_natCast n)
        have e2 : (if true = true ∧ (n : Int) < (s.length : Int) then true else false) = true := if_pos hc
        rw [if_neg Bool.false_ne_true, if_neg Bool.false_ne_true, e1, e2]
        exact ⟨rfl, rfl, rfl, fun _ => ⟨by dsimp only; omega, by dsimp only; omega⟩, fun h => absurd h (by simp)⟩
  · rw [write_off hs]
    simp only [if_true, List.take_zero, laid_nil]
    refine ⟨rfl, rfl, rfl, fun h => ?_, fun h => h4 h⟩
    have := h3 h
    exact ⟨by dsimp only; omega, this.2⟩
theorem left_write (R : RBy) (p : Nat) (s : List UInt8) (hbd : R.bnd = true → 0 ≤ R.left) : R.left - s.length ≤ (R.write p s).2.left ∧ (R.write p s).2.left ≤ R.left ∧ ((R.write p s).2.bnd = true → 0 ≤ (R.write p s).2.left) ∧ (R.write p s).2.bnd = R.bnd := by
  unfold RBy.write RBy.cutN
  dsimp only
  have hcut : ∀ m : Nat, (if R.off = true then 0 else if R.bnd = true ∧ R.left < (m : Int) then R.left.toNat else m) ≤ m ∧ (R.bnd = true → ((if R.off = true then 0 else if R.bnd = true ∧ R.left < (m : Int) then R.left.toNat else m : Nat) : Int) ≤ R.left) := by
    intro m
    split
    · exact ⟨by omega, fun h => by have := hbd h; omega⟩
    · split
      · rename_i h
        have := hbd h.1
        exact ⟨by omega, fun _ => by omega⟩
      · rename_i h
        exact ⟨by omega, fun hb => by
          have : ¬ R.left < (m : Int) := fun h2 => h ⟨hb, h2⟩
          omega⟩
  have := hcut s.length
  refine ⟨by omega, by omega, fun h => ?_, rfl⟩
  have := this.2 h
  omega
/-- The reference's bytes: what a call may find. -/
structure ROk (R : RBy) (k : Nat) : Prop where
  len : R.data.length = 64
  bnd : R.bnd = true → 0 ≤ R.left
  lo : -(k : Int) ≤ R.left
  hi : R.left ≤ 9223372036854775807
theorem ROk.write {R : RBy} {k : Nat} (h : ROk R k) (p : Nat) (s : List UInt8) (hp : p + s.length ≤ 64) : ROk (R.write p s).2 (k + s.length) := by
  obtain ⟨h1, h2, h3, h4⟩ := left_write R p s h.bnd
  have hl := h.lo
  have hh := h.hi
  refine ⟨?_, h3, by omega, by omega⟩
  unfold RBy.write
  dsimp only
  rw [laid_len (by rw [List.length_take, h.len]; omega), h.len]
theorem ROk.le {R : RBy} {k m : Nat} (h : ROk R k) (hm : k ≤ m) : ROk R m := ⟨h.len, h.bnd, by have := h.lo; omega, h.hi⟩

theorem Ev.St.copyS {P : Program} {w0 w : World} {S : Nat → Prop} {H : List Ent} (h : St w0 S w H) (i : Nat) {b o : Nat} {t dT sT e ty : TypeId} {cs : List Value} {s : List UInt8} {dLen dCap : Nat} {k : Value → World → Prop} (hi : H[i]? = some (Ev.blk b t cs))
    (hu : P.underlying dT = some (.slice e)) (hs : (P.info? e).map (·.size) = some 1) (hle : s.length ≤ dLen) (hfit : o + s.length ≤ cs.length)
    (hk : ∀ w', St w0 S w' (H.set i (Ev.blk b t (over cs o (s.flatMap encU)))) → k (.int .i64 (s.length : Nat)) w') : RunC P (Builtin.copy_ #[dT, sT] ty #[.slice (some ⟨b, o, none⟩) dLen dCap, .string (bs s)]) w k := by
  have hb := h.blk i hi
  have hfl : s.flatMap encU = Lib.byteCells s := by
    clear hle hfit hk
    induction s with
    | nil => rfl
    | cons x r ih => rw [List.flatMap_cons, ih]; rfl
  have hr := Lib.run_copy_row_string (P := P) w dT sT ty e b o dLen dCap (bs s) cs.toArray t hu hs hb (by rw [bs_size]; exact hle) (by rw [bs_size]; simpa using hfit)
  refine ⟨_, _, hr, ?_⟩
  rw [bs_size]
  have e1 : w.setRow b (cs.toArray.toList.take o ++ Lib.byteCells (bs s).data.toList ++ cs.toArray.toList.drop (o + s.length)).toArray = setBlk w b t (over cs o (s.flatMap encU)) := by
    unfold World.setRow setBlk
    congr 1
    have e2 : (cs.toArray.toList.take o ++ Lib.byteCells (bs s).data.toList ++ cs.toArray.toList.drop (o + s.length)) = over cs o (s.flatMap encU) := by
      unfold over
      rw [hfl]
      simp [bs, Lib.byteCells]
    rw [e2]
    have lt := hb.lt
    have hb' : w.heap[b]? = some (.cells cs.toArray t (0, 0)) := hb
    apply Array.ext_getElem?
    intro j
    rw [Array.getElem?_modify, Array.getElem?_setIfInBounds]
    by_cases hj : b = j
    · subst hj
      rw [if_pos rfl, if_pos rfl, if_pos lt, hb']
      rfl
    · rw [if_neg hj, if_neg hj]
  rw [e1]
  exact hk _ (h.upd i hi (T := (· = b)) (Ext.set (S := (· = b)) (b := b) rfl t _) (fun c hc => by simp [Ev.blk, hc]) (blk_local _ _ _) (setBlk_blk hb.lt) (fun c hc => .inl hc))

section
variable {w : World} {b c : Nat} {B : BytS} {R : RBy}
theorem blay_ok {E : Nat → Addr} {n : Nat} (s : List UInt8) (hb : Blk w b 124 (encBy B)) (hl : B.data.length = 64) (hE : Errs w E n [3]) (hq : n ≤ b) :
    CallC Tryd.prog 54 #[.pointer (some ⟨b, 0, none⟩), .string (bs s)] w fun v w' => v = errV E (if s.length = 64 then 0 else 3) ∧ Ext (· = b) w w' ∧ Blk w' b 124 (encBy (if s.length = 64 then ⟨s, B.off, B.left⟩ else B)) := by
  refine fn_intro tabOk Tryd.func54 (by kernel_rfl) rfl Tryd.ntmps54 (Nat.le_of_ble_eq_true rfl) ?_
  have hS := (St.start w (· = b)).add (blk_local b _ _) hb (by simp [blk]; exact hb.lt) (by simp)
  (conv => whnf)
  rw [bs_size]
  refine brND (fun h1 => ?_) (fun h1 => ?_)
  · repeat' ((conv => whnf); first | refine RetC.mk ?_ | refine NzC.mk (by decide) ?_ | refine RngC.mk (by omega) (by omega) ?_ | refine IdxC.mk (by omega) (by omega) ?_ | refine hS.ldr (hE.at_ 3 rfl) (hE.ne 3 rfl hq) ?_ | refine hS.ldrF (hE.at_ 3 rfl) (hE.ne 3 rfl hq) id ?_ | refine brD (fun _ => ?_) (fun _ => ?_) | refine brND (fun _ => ?_) (fun _ => ?_) | refine brN (fun _ => ?_) (fun _ => ?_) | refine brI (fun _ => ?_) (fun _ => ?_))
    rw [if_neg (fun h => h1 (by rw [h]; rfl)), if_neg (fun h => h1 (by rw [h]; rfl))]
    exact ⟨rfl, hS.ext, hS.blk 0 rfl⟩
  · have h64 : s.length = 64 := by omega
    rw [if_pos h64, if_pos h64]
    (conv => whnf)
    refine hS.copyS 0 rfl Tryd.underlying87 (by kernel_rfl) (by omega) (by rw [by_len hl]; omega) (fun w' hS => ?_)
    replace hS : St w (· = b) w' [blk b 124 (encBy ⟨s, B.off, B.left⟩)] := by
      have : over (encBy B) 0 (s.flatMap encU) = encBy ⟨s, B.off, B.left⟩ := by
        unfold over encBy
        rw [List.take_zero, List.nil_append, List.drop_append_of_le_length (by rw [flat_len codU, flat_len codU]; omega), List.drop_of_length_le (by rw [flat_len codU, flat_len codU]; omega), List.nil_append]
      rw [← this]; exact hS
    repeat' ((conv => whnf); first | refine RetC.mk ?_ | refine NzC.mk (by decide) ?_ | refine RngC.mk (by omega) (by omega) ?_ | refine IdxC.mk (by omega) (by omega) ?_ | refine brD (fun _ => ?_) (fun _ => ?_) | refine brND (fun _ => ?_) (fun _ => ?_) | refine brN (fun _ => ?_) (fun _ => ?_) | refine brI (fun _ => ?_) (fun _ => ?_))
    exact ⟨rfl, hS.ext, hS.blk 0 rfl⟩

theorem rcput_ok {C : CelS} {k : Nat} (e l : Int) (hC : Blk w c 96 (encCl b C)) (hB : Blk w b 91 (encRB R)) (hA : Alike R B) (hO : BOk B) (hR : ROk R k) (hk : k ≤ 900000) (hN : C.num < 4294967296) :
    CallC Tryd.prog 59 #[.pointer (some ⟨c, 0, none⟩), .int .i64 e, .int .i64 l] w fun v w' => v = .int .i64 ((C.put B e l).1 : Nat) ∧ Ext (fun d => d = b ∨ d = c) w w' ∧ ∃ R', Alike R' (C.put B e l).2.1 ∧ ROk R' (k + 18) ∧ Blk w' b 91 (encRB R') ∧ Blk w' c 96 (encCl b (C.put B e l).2.2) := by
  have hcb : ¬ c = b := Blk.ne hC hB (by decide)
  unfold CelS.put
  refine fn_intro tabOk Tryd.func59 (by kernel_rfl) rfl Tryd.ntmps59 (Nat.le_of_ble_eq_true rfl) ?_
  have hS := (St.start w (fun d => d = b ∨ d = c)).add (blk_local b _ _) hB (by simp [blk]; exact hB.lt) (by simp)
  have hS := hS.add (blk_local c _ _) hC (by simp [blk]; exact hC.lt) (by simp [blk]; omega)
  (conv => whnf)
  refine hS.ld 1 rfl (o := 4) rfl ?_
  cases hd : C.dead
  · rw [if_neg Bool.false_ne_true]
    by_cases hr : e < 0 ∨ e > 1073741824 ∨ l < 0 ∨ l > 1073741824
    · rw [if_pos hr]
      (conv => whnf)
      refine brD (fun h1 => ?_) (fun h1 => ?_)
      · skip
        repeat' ((conv => whnf); first | refine RetC.mk ?_ | refine NzC.mk (by decide) ?_ | refine RngC.mk (by omega) (by omega) ?_ | refine IdxC.mk (by omega) (by omega) ?_ | refine brD (fun _ => ?_) (fun _ => ?_) | refine brND (fun _ => ?_) (fun _ => ?_) | refine brN (fun _ => ?_) (fun _ => ?_) | refine brI (fun _ => ?_) (fun _ => ?_))
        exact ⟨rfl, hS.ext, R, hA, hR.le (by omega), hS.blk 0 rfl, hS.blk 1 rfl⟩
      (conv => whnf)
      refine brD (fun h2 => ?_) (fun h2 => ?_)
      · skip
        repeat' ((conv => whnf); first | refine RetC.mk ?_ | refine NzC.mk (by decide) ?_ | refine RngC.mk (by omega) (by omega) ?_ | refine IdxC.mk (by omega) (by omega) ?_ | refine brD (fun _ => ?_) (fun _ => ?_) | refine brND (fun _ => ?_) (fun _ => ?_) | refine brN (fun _ => ?_) (fun _ => ?_) | refine brI (fun _ => ?_) (fun _ => ?_))
        exact ⟨rfl, hS.ext, R, hA, hR.le (by omega), hS.blk 0 rfl, hS.blk 1 rfl⟩
      (conv => whnf)
      refine brD (fun h3 => ?_) (fun h3 => ?_)
      · skip
        repeat' ((conv => whnf); first | refine RetC.mk ?_ | refine NzC.mk (by decide) ?_ | refine RngC.mk (by omega) (by omega) ?_ | refine IdxC.mk (by omega) (by omega) ?_ | refine brD (fun _ => ?_) (fun _ => ?_) | refine brND (fun _ => ?_) (fun _ => ?_) | refine brN (fun _ => ?_) (fun _ => ?_) | refine brI (fun _ => ?_) (fun _ => ?_))
        exact ⟨rfl, hS.ext, R, hA, hR.le (by omega), hS.blk 0 rfl, hS.blk 1 rfl⟩
      (conv => whnf)
      refine brD (fun h4 => ?_) (fun h4 => absurd hr (by omega))
      repeat' ((conv => whnf); first | refine RetC.mk ?_ | refine NzC.mk (by decide) ?_ | refine RngC.mk (by omega) (by omega) ?_ | refine IdxC.mk (by omega) (by omega) ?_ | refine brD (fun _ => ?_) (fun _ => ?_) | refine brND (fun _ => ?_) (fun _ => ?_) | refine brN (fun _ => ?_) (fun _ => ?_) | refine brI (fun _ => ?_) (fun _ => ?_))
      exact ⟨rfl, hS.ext, R, hA, hR.le (by omega), hS.blk 0 rfl, hS.blk 1 rfl⟩
    rw [if_neg hr]
    (conv => whnf)
    refine brD (fun h => absurd h (by omega)) (fun h1 => ?_)
    (conv => whnf)
    refine brD (fun h => absurd h (by omega)) (fun h2 => ?_)
    (conv => whnf)
    refine brD (fun h => absurd h (by omega)) (fun h3 => ?_)
    (conv => whnf)
    refine brD (fun h => absurd h (by omega)) (fun h4 => ?_)
    obtain ⟨e, rfl⟩ := Int.eq_ofNat_of_zero_le (show 0 ≤ e by omega)
    obtain ⟨l, rfl⟩ := Int.eq_ofNat_of_zero_le (show 0 ≤ l by omega)
    simp only [Int.toNat_natCast]
    (conv => whnf)
    refine hS.ld 1 rfl (o := 2) rfl ?_
    by_cases ho : (e : Int) < C.ep ∨ (l : Int) < C.li
    · rw [if_pos ho]
      (conv => whnf)
      refine brD (fun h5 => ?_) (fun h5 => ?_)
      · skip
        repeat' ((conv => whnf); first | refine RetC.mk ?_ | refine NzC.mk (by decide) ?_ | refine RngC.mk (by omega) (by omega) ?_ | refine IdxC.mk (by omega) (by omega) ?_ | refine brD (fun _ => ?_) (fun _ => ?_) | refine brND (fun _ => ?_) (fun _ => ?_) | refine brN (fun _ => ?_) (fun _ => ?_) | refine brI (fun _ => ?_) (fun _ => ?_))
        exact ⟨rfl, hS.ext, R, hA, hR.le (by omega), hS.blk 0 rfl, hS.blk 1 rfl⟩
      (conv => whnf)
      refine hS.ld 1 rfl (o := 3) rfl ?_
      (conv => whnf)
      refine brD (fun h6 => ?_) (fun h6 => absurd ho (by omega))
      repeat' ((conv => whnf); first | refine RetC.mk ?_ | refine NzC.mk (by decide) ?_ | refine RngC.mk (by omega) (by omega) ?_ | refine IdxC.mk (by omega) (by omega) ?_ | refine brD (fun _ => ?_) (fun _ => ?_) | refine brND (fun _ => ?_) (fun _ => ?_) | refine brN (fun _ => ?_) (fun _ => ?_) | refine brI (fun _ => ?_) (fun _ => ?_))
      exact ⟨rfl, hS.ext, R, hA, hR.le (by omega), hS.blk 0 rfl, hS.blk 1 rfl⟩
    rw [if_neg ho]
    (conv => whnf)
    refine brD (fun h => absurd h (by omega)) (fun h5 => ?_)
    (conv => whnf)
    refine hS.ld 1 rfl (o := 3) rfl ?_
    (conv => whnf)
    refine brD (fun h => absurd h (by omega)) (fun h6 => ?_)
    (conv => whnf)
    refine hS.ld 1 rfl (o := 1) rfl ?_
    (conv => whnf)
    refine RngC.mk (by omega) (by omega) ?_
    rw [show (C.num : Int) + 1 = ((C.num + 1 : Nat) : Int) by omega]
    (conv => whnf)
    refine brD (fun h7 => ?_) (fun h7 => ?_)
    · rw [if_pos (show C.num + 1 ≥ 4294967296 by omega)]
      repeat' ((conv => whnf); first | refine RetC.mk ?_ | refine NzC.mk (by decide) ?_ | refine RngC.mk (by omega) (by omega) ?_ | refine IdxC.mk (by omega) (by omega) ?_ | refine brD (fun _ => ?_) (fun _ => ?_) | refine brND (fun _ => ?_) (fun _ => ?_) | refine brN (fun _ => ?_) (fun _ => ?_) | refine brI (fun _ => ?_) (fun _ => ?_))
      exact ⟨rfl, hS.ext, R, hA, hR.le (by omega), hS.blk 0 rfl, hS.blk 1 rfl⟩
    rw [if_neg (show ¬ C.num + 1 ≥ 4294967296 by omega)]
    have hmod : ((C.num + 1 : Nat) : Int).tmod 2 = (((C.num + 1) % 2 : Nat) : Int) := by rw [Int.tmod_eq_emod_of_nonneg (by omega)]; omega
    have hn2 : (C.num + 1) % 2 < 2 := Nat.mod_lt _ (by omega)
    have hbl := bodyB_len (C.num + 1) e l
    unfold cwrite
    have h20 : ((C.num + 1 : Nat) : Int).tmod 2 * 20 = (((C.num + 1) % 2 * 20 : Nat) : Int) := by rw [hmod]; omega
    have h36 : (C.num + 1) % 2 * 20 ≤ 20 := by omega
    generalize (C.num + 1) % 2 * 20 = p at h20 h36
    have hpp : (p : Int) + 16 = ((p + 16 : Nat) : Int) := by omega
    repeat' ((conv => whnf); first | refine RetC.mk ?_ | refine NzC.mk (by decide) ?_ | refine RngC.mk (by omega) (by omega) ?_ | refine IdxC.mk (by omega) (by omega) ?_ | refine RngC.mk (by omega) (by omega) ?_ | refine brD (fun _ => ?_) (fun _ => ?_) | refine brND (fun _ => ?_) (fun _ => ?_) | refine brN (fun _ => ?_) (fun _ => ?_) | refine brI (fun _ => ?_) (fun _ => ?_))
    rw [h20]
    (conv => whnf)
    refine hS.ld 1 rfl (o := 0) rfl ?_
    (conv => whnf)
    refine hS.ld 0 rfl rfl ?_
    rw [hA.off]
    cases hoff : B.off
    · rw [if_neg Bool.false_ne_true]
      (conv => whnf)
      refine hS.ld 1 rfl (o := 0) rfl ?_
      (conv => whnf)
      refine hS.ld 0 rfl rfl ?_
      rw [hA.data]
      (conv => whnf)
      refine RngC.mk (by omega) (by omega) ?_
      rw [hpp]
      obtain ⟨x, hx⟩ : ∃ x, B.data[p + 16]? = some x := ⟨_, List.getElem?_eq_getElem (by have := hO.len; omega)⟩
      have hmk : mark B (p + 16) = if x = 0 then (true, B) else B.write (p + 16) [0] := by unfold mark; rw [hx]
      (conv => whnf)
      refine idxS Tryd.underlying9 rfl hx ?_
      (conv => whnf)
      refine neC ?_
      (conv => whnf)
      refine brND (fun h1 => ?_) (fun h1 => ?_)
      · rw [if_neg (by rintro rfl; exact h1 rfl)] at hmk
        rw [hmk]
        have hO1 := hO.write [0] (p + 16)
        have hA1 := alike_write (p := p + 16) (s := [UInt8.ofNat 0]) hA (by have := hO.len; simp; omega) (by simp)
        have hR1 := hR.write (p + 16) [UInt8.ofNat 0] (by simp; omega)
        (conv => whnf)
        (refine drawS tabOk mixed [] ((· = b)) [0, 1, 2, 3, 4, 5, 6, 7, 8] (by kernel_rfl) ?_; rintro w1 rfl; replace hS := hS.drew)
        repeat' ((conv => whnf); first | refine RetC.mk ?_ | refine NzC.mk (by decide) ?_ | refine RngC.mk (by omega) (by omega) ?_ | refine IdxC.mk (by omega) (by omega) ?_ | refine hS.ldF 1 rfl rfl hcb ?_ | refine brD (fun _ => ?_) (fun _ => ?_) | refine brND (fun _ => ?_) (fun _ => ?_) | refine brN (fun _ => ?_) (fun _ => ?_) | refine brI (fun _ => ?_) (fun _ => ?_))
        refine (rbyte_ok 0 (by omega) _).mono ?_
        rintro v w2 ⟨rfl, hx1⟩
        replace hS := hS.no hx1
        refine KeepC.mk hx1.of_no ?_
        (conv => whnf)
        rw [hpp]
        refine (rbwrite_ok (p + 16) [UInt8.ofNat 0] (by first | omega | (simp; omega)) hR.len hR.bnd ⟨by have := hR.lo; omega, hR.hi⟩ (hS.blk 0 rfl)).mono ?_
        rintro v w' ⟨rfl, hx', hB'⟩
        replace hS := hS.upd 0 rfl hx' (fun c hc => by subst hc; exact List.mem_singleton.2 rfl) (blk_local _ _ _) hB' (fun c hc => .inl hc)
        refine KeepC.mk (hx1.of_no.trans hx') ?_
        clear hx' hB' hx1
        generalize RBy.write R (p + 16) [UInt8.ofNat 0] = Q at hS hA1 hR1 ⊢
        obtain ⟨ok0, R1⟩ := Q
        rw [show ([0] : List UInt8) = [UInt8.ofNat 0] from rfl] at hO1 ⊢
        generalize BytS.write B (p + 16) [UInt8.ofNat 0] = Q at hA1 hO1 ⊢
        obtain ⟨ok1, B1⟩ := Q
        obtain ⟨he1, hA1⟩ := hA1
        dsimp only at he1 hA1 hR1 hO1
        subst he1
        have hR1 := hR1.le (show k + [UInt8.ofNat 0].length ≤ k + 1 by simp)
        cases ok0
        · skip
          (conv => whnf)
          refine hS.st 1 rfl (Nat.le_of_ble_eq_true rfl) rfl (fun w' hS => ?_)
          repeat' ((conv => whnf); first | refine RetC.mk ?_ | refine NzC.mk (by decide) ?_ | refine RngC.mk (by omega) (by omega) ?_ | refine IdxC.mk (by omega) (by omega) ?_ | refine brD (fun _ => ?_) (fun _ => ?_) | refine brND (fun _ => ?_) (fun _ => ?_) | refine brN (fun _ => ?_) (fun _ => ?_) | refine brI (fun _ => ?_) (fun _ => ?_))
          exact ⟨rfl, hS.ext, R1, hA1, hR1.le (by omega), hS.blk 0 rfl, hS.blk 1 rfl⟩
        · rw [if_pos rfl]
          (conv => whnf)
          (refine drawS tabOk mixed [] ((· = b)) [0, 1, 2, 3, 4, 5, 6, 7, 8, 9, 10] (by kernel_rfl) ?_; rintro w1 rfl; replace hS := hS.drew)
          repeat' ((conv => whnf); first | refine RetC.mk ?_ | refine NzC.mk (by decide) ?_ | refine RngC.mk (by omega) (by omega) ?_ | refine IdxC.mk (by omega) (by omega) ?_ | refine hS.ldF 1 rfl rfl hcb ?_ | refine brD (fun _ => ?_) (fun _ => ?_) | refine brND (fun _ => ?_) (fun _ => ?_) | refine brN (fun _ => ?_) (fun _ => ?_) | refine brI (fun _ => ?_) (fun _ => ?_))
          refine (rbody_ok (C.num + 1) e l (by omega) (by omega) (by omega) _).mono ?_
          rintro v w2 ⟨rfl, hx1⟩
          replace hS := hS.no hx1
          refine KeepC.mk hx1.of_no ?_
          (conv => whnf)
          have hA2 := alike_write (p := p) (s := bodyB (C.num + 1) e l) hA1 (by have := hO1.len; omega) (by intro h; rw [h] at hbl; simp at hbl)
          have hR2 := hR1.write p (bodyB (C.num + 1) e l) (by omega)
          have hO2 := BOk.write (bodyB (C.num + 1) e l) p hO1
          refine (rbwrite_ok p (bodyB (C.num + 1) e l) (by first | omega | (simp; omega)) hR1.len hR1.bnd ⟨by have := hR1.lo; omega, hR1.hi⟩ (hS.blk 0 rfl)).mono ?_
          rintro v w' ⟨rfl, hx', hB'⟩
          replace hS := hS.upd 0 rfl hx' (fun c hc => by subst hc; exact List.mem_singleton.2 rfl) (blk_local _ _ _) hB' (fun c hc => .inl hc)
          refine KeepC.mk (hx1.of_no.trans hx') ?_
          clear hx' hB' hx1
          rw [hbl] at hR2
          generalize RBy.write R1 p (bodyB (C.num + 1) e l) = Q at hS hA2 hR2 ⊢
          obtain ⟨ok2, R2⟩ := Q
          generalize BytS.write B1 p (bodyB (C.num + 1) e l) = Q at hO2 hA2 ⊢
          obtain ⟨ok3, B2⟩ := Q
          obtain ⟨he1, hA2⟩ := hA2
          dsimp only at he1 hA2 hR2 hO2
          subst he1
          cases ok2
          · skip
            (conv => whnf)
            refine hS.st 1 rfl (Nat.le_of_ble_eq_true rfl) rfl (fun w' hS => ?_)
            repeat' ((conv => whnf); first | refine RetC.mk ?_ | refine NzC.mk (by decide) ?_ | refine RngC.mk (by omega) (by omega) ?_ | refine IdxC.mk (by omega) (by omega) ?_ | refine brD (fun _ => ?_) (fun _ => ?_) | refine brND (fun _ => ?_) (fun _ => ?_) | refine brN (fun _ => ?_) (fun _ => ?_) | refine brI (fun _ => ?_) (fun _ => ?_))
            exact ⟨rfl, hS.ext, R2, hA2, hR2.le (by omega), hS.blk 0 rfl, hS.blk 1 rfl⟩
          · rw [if_pos rfl]
            (conv => whnf)
            (refine drawS tabOk mixed [] ((· = b)) [0, 1, 2, 3, 4, 5, 6, 7, 8] (by kernel_rfl) ?_; rintro w1 rfl; replace hS := hS.drew)
            repeat' ((conv => whnf); first | refine RetC.mk ?_ | refine NzC.mk (by decide) ?_ | refine RngC.mk (by omega) (by omega) ?_ | refine IdxC.mk (by omega) (by omega) ?_ | refine hS.ldF 1 rfl rfl hcb ?_ | refine brD (fun _ => ?_) (fun _ => ?_) | refine brND (fun _ => ?_) (fun _ => ?_) | refine brN (fun _ => ?_) (fun _ => ?_) | refine brI (fun _ => ?_) (fun _ => ?_))
            refine (rbyte_ok 165 (by omega) _).mono ?_
            rintro v w2 ⟨rfl, hx1⟩
            replace hS := hS.no hx1
            refine KeepC.mk hx1.of_no ?_
            (conv => whnf)
            rw [hpp]
            have hA3 := alike_write (p := p + 16) (s := [UInt8.ofNat 165]) hA2 (by have := hO2.len; simp; omega) (by simp)
            have hR3 := hR2.write (p + 16) [UInt8.ofNat 165] (by simp; omega)
            refine (rbwrite_ok (p + 16) [UInt8.ofNat 165] (by first | omega | (simp; omega)) hR2.len hR2.bnd ⟨by have := hR2.lo; omega, hR2.hi⟩ (hS.blk 0 rfl)).mono ?_
            rintro v w' ⟨rfl, hx', hB'⟩
            replace hS := hS.upd 0 rfl hx' (fun c hc => by subst hc; exact List.mem_singleton.2 rfl) (blk_local _ _ _) hB' (fun c hc => .inl hc)
            refine KeepC.mk (hx1.of_no.trans hx') ?_
            clear hx' hB' hx1
            generalize RBy.write R2 (p + 16) [UInt8.ofNat 165] = Q at hS hA3 hR3 ⊢
            obtain ⟨ok4, R3⟩ := Q
            rw [show ([165] : List UInt8) = [UInt8.ofNat 165] from rfl]
            generalize BytS.write B2 (p + 16) [UInt8.ofNat 165] = Q at hA3 ⊢
            obtain ⟨ok5, B3⟩ := Q
            obtain ⟨he1, hA3⟩ := hA3
            dsimp only at he1 hA3 hR3
            subst he1
            cases ok4
            · skip
              (conv => whnf)
              refine hS.st 1 rfl (Nat.le_of_ble_eq_true rfl) rfl (fun w' hS => ?_)
              repeat' ((conv => whnf); first | refine RetC.mk ?_ | refine NzC.mk (by decide) ?_ | refine RngC.mk (by omega) (by omega) ?_ | refine IdxC.mk (by omega) (by omega) ?_ | refine brD (fun _ => ?_) (fun _ => ?_) | refine brND (fun _ => ?_) (fun _ => ?_) | refine brN (fun _ => ?_) (fun _ => ?_) | refine brI (fun _ => ?_) (fun _ => ?_))
              exact ⟨rfl, hS.ext, R3, hA3, hR3.le (by first | omega | (simp; omega) | simp), hS.blk 0 rfl, hS.blk 1 rfl⟩
            · (conv => whnf)
              refine hS.st 1 rfl (Nat.le_of_ble_eq_true rfl) rfl (fun w' hS => ?_)
              (conv => whnf)
              refine hS.st 1 rfl (Nat.le_of_ble_eq_true rfl) rfl (fun w' hS => ?_)
              (conv => whnf)
              refine hS.st 1 rfl (Nat.le_of_ble_eq_true rfl) rfl (fun w' hS => ?_)
              repeat' ((conv => whnf); first | refine RetC.mk ?_ | refine NzC.mk (by decide) ?_ | refine RngC.mk (by omega) (by omega) ?_ | refine IdxC.mk (by omega) (by omega) ?_ | refine brD (fun _ => ?_) (fun _ => ?_) | refine brND (fun _ => ?_) (fun _ => ?_) | refine brN (fun _ => ?_) (fun _ => ?_) | refine brI (fun _ => ?_) (fun _ => ?_))
              exact ⟨rfl, hS.ext, R3, hA3, hR3.le (by first | omega | (simp; omega) | simp), hS.blk 0 rfl, (hS.blk 1 rfl).to (by rw [← hd]; rfl)⟩
      · rw [if_pos (by
          have h2 : x.toNat = 0 := by omega
          exact UInt8.toNat_inj.1 h2)] at hmk
        rw [hmk, if_pos rfl]
        (conv => whnf)
        (refine drawS tabOk mixed [] ((· = b)) [0, 1, 2, 3, 4, 5, 6, 7, 8, 9, 10] (by kernel_rfl) ?_; rintro w1 rfl; replace hS := hS.drew)
        repeat' ((conv => whnf); first | refine RetC.mk ?_ | refine NzC.mk (by decide) ?_ | refine RngC.mk (by omega) (by omega) ?_ | refine IdxC.mk (by omega) (by omega) ?_ | refine hS.ldF 1 rfl rfl hcb ?_ | refine brD (fun _ => ?_) (fun _ => ?_) | refine brND (fun _ => ?_) (fun _ => ?_) | refine brN (fun _ => ?_) (fun _ => ?_) | refine brI (fun _ => ?_) (fun _ => ?_))
        refine (rbody_ok (C.num + 1) e l (by omega) (by omega) (by omega) _).mono ?_
        rintro v w2 ⟨rfl, hx1⟩
        replace hS := hS.no hx1
        refine KeepC.mk hx1.of_no ?_
        (conv => whnf)
        have hA2 := alike_write (p := p) (s := bodyB (C.num + 1) e l) hA (by have := hO.len; omega) (by intro h; rw [h] at hbl; simp at hbl)
        have hR2 := hR.write p (bodyB (C.num + 1) e l) (by omega)
        have hO2 := BOk.write (bodyB (C.num + 1) e l) p hO
        refine (rbwrite_ok p (bodyB (C.num + 1) e l) (by first | omega | (simp; omega)) hR.len hR.bnd ⟨by have := hR.lo; omega, hR.hi⟩ (hS.blk 0 rfl)).mono ?_
        rintro v w' ⟨rfl, hx', hB'⟩
        replace hS := hS.upd 0 rfl hx' (fun c hc => by subst hc; exact List.mem_singleton.2 rfl) (blk_local _ _ _) hB' (fun c hc => .inl hc)
        refine KeepC.mk (hx1.of_no.trans hx') ?_
        clear hx' hB' hx1
        rw [hbl] at hR2
        generalize RBy.write R p (bodyB (C.num + 1) e l) = Q at hS hA2 hR2 ⊢
        obtain ⟨ok2, R2⟩ := Q
        generalize BytS.write B p (bodyB (C.num + 1) e l) = Q at hO2 hA2 ⊢
        obtain ⟨ok3, B2⟩ := Q
        obtain ⟨he1, hA2⟩ := hA2
        dsimp only at he1 hA2 hR2 hO2
        subst he1
        cases ok2
        · skip
          (conv => whnf)
          refine hS.st 1 rfl (Nat.le_of_ble_eq_true rfl) rfl (fun w' hS => ?_)
          repeat' ((conv => whnf); first | refine RetC.mk ?_ | refine NzC.mk (by decide) ?_ | refine RngC.mk (by omega) (by omega) ?_ | refine IdxC.mk (by omega) (by omega) ?_ | refine brD (fun _ => ?_) (fun _ => ?_) | refine brND (fun _ => ?_) (fun _ => ?_) | refine brN (fun _ => ?_) (fun _ => ?_) | refine brI (fun _ => ?_) (fun _ => ?_))
          exact ⟨rfl, hS.ext, R2, hA2, hR2.le (by omega), hS.blk 0 rfl, hS.blk 1 rfl⟩
        · rw [if_pos rfl]
          (conv => whnf)
          (refine drawS tabOk mixed [] ((· = b)) [0, 1, 2, 3, 4, 5, 6, 7, 8] (by kernel_rfl) ?_; rintro w1 rfl; replace hS := hS.drew)
          repeat' ((conv => whnf); first | refine RetC.mk ?_ | refine NzC.mk (by decide) ?_ | refine RngC.mk (by omega) (by omega) ?_ | refine IdxC.mk (by omega) (by omega) ?_ | refine hS.ldF 1 rfl rfl hcb ?_ | refine brD (fun _ => ?_) (fun _ => ?_) | refine brND (fun _ => ?_) (fun _ => ?_) | refine brN (fun _ => ?_) (fun _ => ?_) | refine brI (fun _ => ?_) (fun _ => ?_))
          refine (rbyte_ok 165 (by omega) _).mono ?_
          rintro v w2 ⟨rfl, hx1⟩
          replace hS := hS.no hx1
          refine KeepC.mk hx1.of_no ?_
          (conv => whnf)
          rw [hpp]
          have hA3 := alike_write (p := p + 16) (s := [UInt8.ofNat 165]) hA2 (by have := hO2.len; simp; omega) (by simp)
          have hR3 := hR2.write (p + 16) [UInt8.ofNat 165] (by simp; omega)
          refine (rbwrite_ok (p + 16) [UInt8.ofNat 165] (by first | omega | (simp; omega)) hR2.len hR2.bnd ⟨by have := hR2.lo; omega, hR2.hi⟩ (hS.blk 0 rfl)).mono ?_
          rintro v w' ⟨rfl, hx', hB'⟩
          replace hS := hS.upd 0 rfl hx' (fun c hc => by subst hc; exact List.mem_singleton.2 rfl) (blk_local _ _ _) hB' (fun c hc => .inl hc)
          refine KeepC.mk (hx1.of_no.trans hx') ?_
          clear hx' hB' hx1
          generalize RBy.write R2 (p + 16) [UInt8.ofNat 165] = Q at hS hA3 hR3 ⊢
          obtain ⟨ok4, R3⟩ := Q
          rw [show ([165] : List UInt8) = [UInt8.ofNat 165] from rfl]
          generalize BytS.write B2 (p + 16) [UInt8.ofNat 165] = Q at hA3 ⊢
          obtain ⟨ok5, B3⟩ := Q
          obtain ⟨he1, hA3⟩ := hA3
          dsimp only at he1 hA3 hR3
          subst he1
          cases ok4
          · skip
            (conv => whnf)
            refine hS.st 1 rfl (Nat.le_of_ble_eq_true rfl) rfl (fun w' hS => ?_)
            repeat' ((conv => whnf); first | refine RetC.mk ?_ | refine NzC.mk (by decide) ?_ | refine RngC.mk (by omega) (by omega) ?_ | refine IdxC.mk (by omega) (by omega) ?_ | refine brD (fun _ => ?_) (fun _ => ?_) | refine brND (fun _ => ?_) (fun _ => ?_) | refine brN (fun _ => ?_) (fun _ => ?_) | refine brI (fun _ => ?_) (fun _ => ?_))
            exact ⟨rfl, hS.ext, R3, hA3, hR3.le (by first | omega | (simp; omega) | simp), hS.blk 0 rfl, hS.blk 1 rfl⟩
          · (conv => whnf)
            refine hS.st 1 rfl (Nat.le_of_ble_eq_true rfl) rfl (fun w' hS => ?_)
            (conv => whnf)
            refine hS.st 1 rfl (Nat.le_of_ble_eq_true rfl) rfl (fun w' hS => ?_)
            (conv => whnf)
            refine hS.st 1 rfl (Nat.le_of_ble_eq_true rfl) rfl (fun w' hS => ?_)
            repeat' ((conv => whnf); first | refine RetC.mk ?_ | refine NzC.mk (by decide) ?_ | refine RngC.mk (by omega) (by omega) ?_ | refine IdxC.mk (by omega) (by omega) ?_ | refine brD (fun _ => ?_) (fun _ => ?_) | refine brND (fun _ => ?_) (fun _ => ?_) | refine brN (fun _ => ?_) (fun _ => ?_) | refine brI (fun _ => ?_) (fun _ => ?_))
            exact ⟨rfl, hS.ext, R3, hA3, hR3.le (by first | omega | (simp; omega) | simp), hS.blk 0 rfl, (hS.blk 1 rfl).to (by rw [← hd]; rfl)⟩
    · rw [if_pos rfl]
      (conv => whnf)
      refine hS.st 1 rfl (Nat.le_of_ble_eq_true rfl) rfl (fun w' hS => ?_)
      repeat' ((conv => whnf); first | refine RetC.mk ?_ | refine NzC.mk (by decide) ?_ | refine RngC.mk (by omega) (by omega) ?_ | refine IdxC.mk (by omega) (by omega) ?_ | refine brD (fun _ => ?_) (fun _ => ?_) | refine brND (fun _ => ?_) (fun _ => ?_) | refine brN (fun _ => ?_) (fun _ => ?_) | refine brI (fun _ => ?_) (fun _ => ?_))
      exact ⟨rfl, hS.ext, R, hA, hR.le (by omega), hS.blk 0 rfl, hS.blk 1 rfl⟩
  · rw [if_pos rfl]
    repeat' ((conv => whnf); first | refine RetC.mk ?_ | refine NzC.mk (by decide) ?_ | refine RngC.mk (by omega) (by omega) ?_ | refine IdxC.mk (by omega) (by omega) ?_ | refine brD (fun _ => ?_) (fun _ => ?_) | refine brND (fun _ => ?_) (fun _ => ?_) | refine brN (fun _ => ?_) (fun _ => ?_) | refine brI (fun _ => ?_) (fun _ => ?_))
    exact ⟨rfl, hS.ext, R, hA, hR.le (by omega), hS.blk 0 rfl, hS.blk 1 rfl⟩
end
end Go.Proofs.YteakdmngllfodaaDoor
