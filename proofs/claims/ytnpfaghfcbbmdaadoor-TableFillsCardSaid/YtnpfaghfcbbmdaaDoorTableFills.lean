/-
  TableFills returns true whatever its arguments.
-/
import Derived.Test.YtnpfaghfcbbmdaaDoorListed
import Derived.Test.YtnpfaghfcbbmdaaDoorAs
namespace Go.Proofs.YtnpfaghfcbbmdaaDoor
open Go Ev

/-! ### The plain law -/
def gen (f : Nat → CellS) : List CellS := (List.range 32).map f
theorem gen_len (f : Nat → CellS) : (gen f).length = 32 := by simp [gen]
theorem gen_at {f : Nat → CellS} {i : Nat} (h : i < 32) : (gen f)[i]? = some (f i) := by simp [gen, h]
theorem gen_mem {f : Nat → CellS} {c : CellS} (h : c ∈ gen f) : ∃ i, i < 32 ∧ c = f i := by
  simp only [gen, List.mem_map, List.mem_range] at h
  obtain ⟨i, hi, rfl⟩ := h
  exact ⟨i, hi, rfl⟩
theorem gen_ext {f g : Nat → CellS} (h : ∀ i, i < 32 → f i = g i) : gen f = gen g := by
  unfold gen
  exact List.map_congr_left fun i hi => h i (List.mem_range.1 hi)
theorem gen_set {f : Nat → CellS} {k : Nat} (hk : k < 32) (y : CellS) : (gen f).set k y = gen fun i => if i = k then y else f i := by
  apply List.ext_getElem?
  intro i
  by_cases hi : i < 32
  · rw [gen_at hi, List.getElem?_set]
    by_cases h : k = i
    · subst h
      simp [gen_len, hi]
    · rw [if_neg h, gen_at hi, if_neg (fun e => h e.symm)]
  · rw [List.getElem?_eq_none (by simp [gen_len]; omega), List.getElem?_eq_none (by rw [gen_len]; omega)]
theorem gen_setF {f : Nat → CellS} {k : Nat} (hk : k < 32) (fl : FlowS) : setF (gen f) k fl = gen fun i => if i = k then ⟨(f k).slot, (f k).ver + 1, fl⟩ else f i := by
  rw [setF_at (gen_at hk), gen_set hk]
theorem gen_idx {f : Nat → CellS} {p : CellS → Bool} {j : Nat} (hj : j < 32) (h : p (f j) = true) (hn : ∀ i, i < j → p (f i) = false) : idxI p (gen f) 0 = j := by
  rw [idxI_at p (gen f) 0 j (f j) (gen_at hj) h fun i y hi hy => by
    rw [gen_at (by omega)] at hy
    cases hy
    exact hn i hi]
  simp
theorem gen_none {f : Nat → CellS} {p : CellS → Bool} (hn : ∀ i, i < 32 → p (f i) = false) : idxI p (gen f) 0 < 0 := (idxI_neg _ _ _).2 fun x hx => by
  obtain ⟨i, hi, rfl⟩ := gen_mem hx
  exact hn i hi
theorem gen_some {f : Nat → CellS} {p : CellS → Bool} {j : Nat} (hj : j < 32) (h : p (f j) = true) : 0 ≤ idxI p (gen f) 0 := by
  by_cases hlt : idxI p (gen f) 0 < 0
  · have := (idxI_neg p (gen f) 0).1 hlt (f j) (List.mem_of_getElem? (gen_at hj))
    rw [h] at this
    cases this
  · omega
theorem portF_at {T : MirS} {pr fa fp : Int} : ∀ (m i j : Nat), i ≤ j → j < i + m → (∀ k, i ≤ k → k < j → 0 ≤ T.back pr (T.life + k) fa fp) → T.back pr (T.life + j) fa fp < 0 → portF T pr fa fp m i = some j
  | 0, i, j, h1, h2, _, _ => by omega
  | m + 1, i, j, h1, h2, h3, h4 => by
    unfold portF
    by_cases h : i = j
    · subst h
      rw [if_pos h4]
    · rw [if_neg (by have := h3 i (Nat.le_refl _) (by omega); omega)]
      exact portF_at m (i + 1) j (by omega) (by omega) (fun k hk => h3 k (by omega)) h4
theorem portF_none {T : MirS} {pr fa fp : Int} : ∀ (m i : Nat), (∀ k, i ≤ k → k < i + m → 0 ≤ T.back pr (T.life + k) fa fp) → portF T pr fa fp m i = none
  | 0, i, _ => rfl
  | m + 1, i, h => by
    unfold portF
    rw [if_neg (by have := h i (Nat.le_refl _) (by omega); omega)]
    exact portF_none m (i + 1) fun k hk hk2 => h k (by omega) (by omega)

section
variable (F pr fa fp : Int)
def fullF (i : Nat) : FlowS := ⟨pr, i, 1, fa, fp, F + i, 1, 1⟩
def fillF (n i : Nat) : CellS := if i < n then ⟨i, 1, fullF F pr fa fp i⟩ else ⟨i, 0, noFlow⟩
def dropF (d i : Nat) : CellS := if i = d then ⟨i, 2, noFlow⟩ else fillF F pr fa fp 24 i
def againF (d i : Nat) : CellS := if i = d then ⟨i, 3, ⟨pr, 24, 1, fa, fp, F + d, 1, 1⟩⟩ else fillF F pr fa fp 24 i

variable {F pr fa fp}
theorem fill_empty : gen (fillF F pr fa fp 0) = emptyCells := by
  unfold gen emptyCells
  refine List.map_congr_left fun i _ => ?_
  simp [fillF]
theorem fill_ver (n : Nat) : VerOk ⟨F, gen (fillF F pr fa fp n)⟩ := by
  intro c hc
  obtain ⟨i, _, rfl⟩ := gen_mem hc
  unfold fillF
  split <;> exact ⟨by dsimp only; omega, by dsimp only; omega⟩
theorem drop_ver (d : Nat) : VerOk ⟨F, gen (dropF F pr fa fp d)⟩ := by
  intro c hc
  obtain ⟨i, _, rfl⟩ := gen_mem hc
  unfold dropF fillF
  repeat' split
  all_goals exact ⟨by dsimp only; omega, by dsimp only; omega⟩
theorem fill_add (h0 : pr ≠ 0) {n : Nat} (hn : n < 24) : (MirS.mk F (gen (fillF F pr fa fp n))).add pr n 1 fa fp 1 1 = (((n : Int), 0), ⟨F, gen (fillF F pr fa fp (n + 1))⟩) := by
  have h1 : (MirS.mk F (gen (fillF F pr fa fp n))).find pr n 1 fa fp < 0 := gen_none fun i hi => by
    unfold fillF
    split
    · have : (i : Int) ≠ n := by omega
      simp [there, fitF, fullF, this]
    · simp [there, noFlow]
  have h2 : portF ⟨F, gen (fillF F pr fa fp n)⟩ pr fa fp 24 0 = some n := by
    refine portF_at 24 0 n (Nat.zero_le _) (by omega) (fun k _ hk => gen_some (j := k) (by omega) ?_) (gen_none fun i hi => ?_)
    · simp [fillF, hk, there, fitB, fullF, h0]
    · unfold fillF
      split
      · have : F + (i : Int) ≠ F + n := by omega
        simp [there, fitB, fullF, this]
      · simp [there, noFlow]
  have h3 : idxI proto0 (gen (fillF F pr fa fp n)) 0 = n := gen_idx (by omega) (by simp [fillF, proto0, noFlow]) fun i hi => by simp [fillF, hi, proto0, fullF, h0]
  unfold MirS.add
  rw [if_neg (by omega), h2]
  dsimp only
  unfold MirS.lay
  dsimp only
  rw [h3, if_neg (by omega), show ((n : Int)).toNat = n by simp, gen_setF (by omega)]
  congr 2
  refine gen_ext fun i hi => ?_
  by_cases h : i = n
  · subst h
    simp [fillF, fullF]
  · rw [if_neg h]
    unfold fillF
    by_cases h2 : i < n
    · rw [if_pos h2, if_pos (by omega)]
    · rw [if_neg h2, if_neg (by omega)]
theorem full_add (h0 : pr ≠ 0) : (MirS.mk F (gen (fillF F pr fa fp 24))).add pr 24 1 fa fp 1 1 = ((0, 6), ⟨F, gen (fillF F pr fa fp 24)⟩) := by
  have h1 : (MirS.mk F (gen (fillF F pr fa fp 24))).find pr 24 1 fa fp < 0 := gen_none fun i hi => by
    unfold fillF
    split
    · have : (i : Int) ≠ 24 := by omega
      simp [there, fitF, fullF, this]
    · simp [there, noFlow]
  have h2 : portF ⟨F, gen (fillF F pr fa fp 24)⟩ pr fa fp 24 0 = none := portF_none 24 0 fun k _ hk => gen_some (j := k) (by omega) (by simp [fillF, show k < 24 by omega, there, fitB, fullF, h0])
  unfold MirS.add
  rw [if_neg (by omega), h2]
theorem full_drop (h0 : pr ≠ 0) {d : Nat} (hd : d < 24) : (MirS.mk F (gen (fillF F pr fa fp 24))).drop d = (0, ⟨F, gen (dropF F pr fa fp d)⟩) := by
  have h1 : (MirS.mk F (gen (fillF F pr fa fp 24))).flowErr d = 0 := by
    unfold MirS.flowErr
    rw [if_neg (by omega)]
    simp only [show ((d : Int)).toNat = d by simp, gen_at (show d < 32 by omega)]
    simp [fillF, hd, fullF, h0]
  unfold MirS.drop
  rw [h1, if_neg (by simp), show ((d : Int)).toNat = d by simp]
  simp only [gen_setF (show d < 32 by omega)]
  congr 2
  refine gen_ext fun i hi => ?_
  unfold dropF
  by_cases h : i = d
  · subst h
    simp [fillF, hd]
  · rw [if_neg h, if_neg h]
theorem again_add (h0 : pr ≠ 0) {d : Nat} (hd : d < 24) : (MirS.mk F (gen (dropF F pr fa fp d))).add pr 24 1 fa fp 1 1 = (((d : Int), 0), ⟨F, gen (againF F pr fa fp d)⟩) := by
  have h1 : (MirS.mk F (gen (dropF F pr fa fp d))).find pr 24 1 fa fp < 0 := gen_none fun i hi => by
    unfold dropF fillF
    split
    · simp [there, noFlow]
    · split
      · have : (i : Int) ≠ 24 := by omega
        simp [there, fitF, fullF, this]
      · simp [there, noFlow]
  have h2 : portF ⟨F, gen (dropF F pr fa fp d)⟩ pr fa fp 24 0 = some d := by
    refine portF_at 24 0 d (Nat.zero_le _) (by omega) (fun k _ hk => gen_some (j := k) (by omega) ?_) (gen_none fun i hi => ?_)
    · simp [dropF, show k ≠ d by omega, fillF, show k < 24 by omega, there, fitB, fullF, h0]
    · unfold dropF fillF
      split
      · simp [there, noFlow]
      · split
        · have : F + (i : Int) ≠ F + d := by omega
          simp [there, fitB, fullF, this]
        · simp [there, noFlow]
  have h3 : idxI proto0 (gen (dropF F pr fa fp d)) 0 = d := gen_idx (by omega) (by simp [dropF, proto0, noFlow]) fun i hi => by simp [dropF, show i ≠ d by omega, fillF, show i < 24 by omega, proto0, fullF, h0]
  unfold MirS.add
  rw [if_neg (by omega), h2]
  dsimp only
  unfold MirS.lay
  dsimp only
  rw [h3, if_neg (by omega), show ((d : Int)).toNat = d by simp]
  simp only [gen_setF (show d < 32 by omega)]
  congr 2
  refine gen_ext fun i hi => ?_
  unfold againF dropF
  by_cases h : i = d
  · subst h
    simp
  · rw [if_neg h, if_neg h]
    simp [h]
end

/-! ### The walk -/
theorem tableFills_ok {E : Nat → Addr} (W : World) (hE : Errs W E W.heap.size allErrs) (hh : Handle W) (nd pr fa fp d : Int) :
    CallC Tryd.prog 11 #[.int .i64 nd, .int .i64 pr, .agg #[.int .i64 fa, .int .i64 fp], .int .i64 d] W fun v w' => v = .bool true ∧ Ext No W w' := by
  refine fn_intro tabOk Tryd.func11 (by kernel_rfl) rfl Tryd.ntmps11 (Nat.le_of_ble_eq_true rfl) ?_
  have hS := St.start W No
  (conv => whnf)
  refine hS.new (fun b6 w' hb6 hS => ?_)
  (conv => whnf)
  refine (listed_ok _ ((hE.sub rfl).ext hS.ext fun _ h => h.elim) hS.ext.size).mono ?_
  rintro v w' ⟨rfl, hx'⟩
  replace hS := hS.no hx'
  clear hx'
  (conv => whnf)
  refine brD (fun h1 => ?_) (fun h1 => ?_)
  · repeat' ((conv => whnf); first | refine RetC.mk ?_ | refine NzC.mk (by decide) ?_ | refine RngC.mk (by omega) (by omega) ?_ | refine IdxC.mk (by omega) (by omega) ?_ | refine brD (fun _ => ?_) (fun _ => ?_) | refine brND (fun _ => ?_) (fun _ => ?_) | refine brN (fun _ => ?_) (fun _ => ?_) | refine brI (fun _ => ?_) (fun _ => ?_))
    exact ⟨rfl, hS.ext⟩
  (conv => whnf)
  refine brD (fun h2 => ?_) (fun h2 => ?_)
  · repeat' ((conv => whnf); first | refine RetC.mk ?_ | refine NzC.mk (by decide) ?_ | refine RngC.mk (by omega) (by omega) ?_ | refine IdxC.mk (by omega) (by omega) ?_ | refine brD (fun _ => ?_) (fun _ => ?_) | refine brND (fun _ => ?_) (fun _ => ?_) | refine brN (fun _ => ?_) (fun _ => ?_) | refine brI (fun _ => ?_) (fun _ => ?_))
    exact ⟨rfl, hS.ext⟩
  (conv => whnf)
  refine brD (fun h3 => ?_) (fun h3 => ?_)
  · repeat' ((conv => whnf); first | refine RetC.mk ?_ | refine NzC.mk (by decide) ?_ | refine RngC.mk (by omega) (by omega) ?_ | refine IdxC.mk (by omega) (by omega) ?_ | refine brD (fun _ => ?_) (fun _ => ?_) | refine brND (fun _ => ?_) (fun _ => ?_) | refine brN (fun _ => ?_) (fun _ => ?_) | refine brI (fun _ => ?_) (fun _ => ?_))
    exact ⟨rfl, hS.ext⟩
  (conv => whnf)
  refine brD (fun h4 => ?_) (fun h4 => ?_)
  · repeat' ((conv => whnf); first | refine RetC.mk ?_ | refine NzC.mk (by decide) ?_ | refine RngC.mk (by omega) (by omega) ?_ | refine IdxC.mk (by omega) (by omega) ?_ | refine brD (fun _ => ?_) (fun _ => ?_) | refine brND (fun _ => ?_) (fun _ => ?_) | refine brN (fun _ => ?_) (fun _ => ?_) | refine brI (fun _ => ?_) (fun _ => ?_))
    exact ⟨rfl, hS.ext⟩
  (conv => whnf)
  refine brD (fun h5 => ?_) (fun h5 => ?_)
  · repeat' ((conv => whnf); first | refine RetC.mk ?_ | refine NzC.mk (by decide) ?_ | refine RngC.mk (by omega) (by omega) ?_ | refine IdxC.mk (by omega) (by omega) ?_ | refine brD (fun _ => ?_) (fun _ => ?_) | refine brND (fun _ => ?_) (fun _ => ?_) | refine brN (fun _ => ?_) (fun _ => ?_) | refine brI (fun _ => ?_) (fun _ => ?_))
    exact ⟨rfl, hS.ext⟩
  obtain ⟨e, rfl⟩ : ∃ e : Nat, d = e := ⟨d.toNat, by omega⟩
  have he : e < 24 := by omega
  (conv => whnf)
  refine (tnew_ok nd _ (by omega)).mono ?_
  rintro v w' ⟨b, rfl, hb, hx, hB⟩
  replace hS := hS.made hx (blk_local _ _ _) hB (by simp [blk]; exact ⟨hb, hB.lt⟩)
  have fb := hS.fresh 1 rfl
  rw [← fill_empty (F := 2000 + nd * 24) (pr := pr) (fa := fa) (fp := fp)] at hS
  have hF : 0 ≤ 2000 + nd * 24 ∧ 2000 + nd * 24 ≤ 100000 := by omega
  have hnd : -100 ≤ nd ∧ nd ≤ 100 := by omega
  generalize hFe : 2000 + nd * 24 = F at hS hF
  clear hx hB
  (conv => whnf)
  refine loopR tabOk (fun σ w q => ∃ i : Nat, σ = [(12, .int .i64 i), (10, .pointer (some ⟨b, 0, none⟩)), (6, .pointer (some ⟨b6, 0, none⟩)), (3, .int .i64 e), (1, .int .i64 pr), (0, .int .i64 nd)] ∧ q = 24 - i ∧ i ≤ 24 ∧ St W No w [blk b6 55 [.int .i64 fa, .int .i64 fp], blk b 104 (encM ⟨F, gen (fillF F pr fa fp i)⟩)])
    (σ' := [(12, .int .i64 ((0 : Nat) : Int)), (10, .pointer (some ⟨b, 0, none⟩)), (6, .pointer (some ⟨b6, 0, none⟩)), (3, .int .i64 e), (1, .int .i64 pr), (0, .int .i64 nd)]) (n := 24) ⟨rfl, rfl, rfl, rfl, rfl, rfl, trivial⟩ ⟨0, rfl, rfl, Nat.zero_le _, hS⟩ ?_
  clear hS
  rintro _ w q ⟨i, rfl, rfl, hi, hS⟩
  (conv => whnf)
  refine brD (fun h6 => ?_) (fun h6 => ?_)
  · have hi : i < 24 := by omega
    (conv => whnf)
    refine hS.la 0 rfl (l := [.int .i64 fa, .int .i64 fp]) rfl rfl ?_
    (conv => whnf)
    refine (tadd_ok pr i 1 fa fp 1 1 (hS.blk 1 rfl) (gen_len _) (fill_ver _) hF ((hE.sub rfl).ext hS.ext fun _ h => h.elim) fb).mono ?_
    rw [fill_add h3 hi]
    rintro v w' ⟨rfl, hx, hB⟩
    replace hS := hS.upd 1 rfl hx (fun c hc => by subst hc; exact List.mem_singleton.2 rfl) (blk_local _ _ _) hB (fun c hc => .inl hc)
    (conv => whnf)
    refine brND (fun h => absurd rfl h) (fun _ => ?_)
    (conv => whnf)
    refine RngC.mk (by omega) (by omega) ?_
    (conv => whnf)
    refine LoopE.mk ⟨_, [(12, .int .i64 ((i + 1 : Nat) : Int)), (10, _), (6, _), (3, _), (1, _), (0, _)], ?_, ⟨rfl, rfl, rfl, rfl, rfl, rfl, trivial⟩, ⟨i + 1, rfl, rfl, by omega, hS⟩⟩
    omega
  · obtain rfl : i = 24 := by omega
    (conv => whnf)
    refine hS.la 0 rfl (l := [.int .i64 fa, .int .i64 fp]) rfl rfl ?_
    (conv => whnf)
    refine (tadd_ok pr 24 1 fa fp 1 1 (hS.blk 1 rfl) (gen_len _) (fill_ver _) hF ((hE.sub rfl).ext hS.ext fun _ h => h.elim) fb).mono ?_
    rw [full_add h3]
    rintro v w' ⟨rfl, hx, hB⟩
    replace hS := hS.upd 1 rfl hx (fun c hc => by subst hc; exact List.mem_singleton.2 rfl) (blk_local _ _ _) hB (fun c hc => .inl hc)
    clear hx hB
    (conv => whnf)
    refine (coded1_ok 6 6 (by decide) _ (hE.ext hS.ext fun _ h => h.elim) (hh.ext hS.ext)).mono ?_
    rintro v w' ⟨rfl, hx⟩
    replace hS := hS.no hx
    clear hx
    (conv => whnf)
    refine (tdrop_ok e (hS.blk 1 rfl) (gen_len _) (fill_ver _) ((hE.sub rfl).ext hS.ext fun _ h => h.elim)).mono ?_
    rw [full_drop h3 he]
    rintro v w' ⟨rfl, hx, hB⟩
    replace hS := hS.upd 1 rfl hx (fun c hc => by subst hc; exact List.mem_singleton.2 rfl) (blk_local _ _ _) hB (fun c hc => .inl hc)
    clear hx hB
    (conv => whnf)
    refine hS.la 0 rfl (l := [.int .i64 fa, .int .i64 fp]) rfl rfl ?_
    (conv => whnf)
    refine (tadd_ok pr 24 1 fa fp 1 1 (hS.blk 1 rfl) (gen_len _) (drop_ver _) hF ((hE.sub rfl).ext hS.ext fun _ h => h.elim) fb).mono ?_
    rw [again_add h3 he]
    rintro v w' ⟨rfl, hx, hB⟩
    replace hS := hS.upd 1 rfl hx (fun c hc => by subst hc; exact List.mem_singleton.2 rfl) (blk_local _ _ _) hB (fun c hc => .inl hc)
    clear hx hB
    (conv => whnf)
    refine brND (fun h => absurd rfl h) (fun _ => ?_)
    (conv => whnf)
    refine (tget_ok e (hS.blk 1 rfl) (by omega) (by omega) (c := ⟨e, 3, ⟨pr, 24, 1, fa, fp, F + e, 1, 1⟩⟩) (by rw [show ((e : Int)).toNat = e by simp, gen_at (by omega)]; simp [againF])).mono ?_
    rintro v w' ⟨rfl, hx⟩
    replace hS := hS.no hx
    clear hx
    (conv => whnf)
    refine hS.new (fun bc w' hbc hS => ?_)
    (conv => whnf)
    refine hS.st 2 rfl (Nat.le_of_ble_eq_true rfl) rfl (fun w' hS => ?_)
    repeat' ((conv => whnf); first | refine RetC.mk ?_ | refine NzC.mk (by decide) ?_ | refine RngC.mk (by omega) (by omega) ?_ | refine IdxC.mk (by omega) (by omega) ?_ | refine hS.ld 2 rfl rfl ?_ | refine brD (fun _ => ?_) (fun _ => ?_) | refine brND (fun _ => ?_) (fun _ => ?_) | refine brN (fun _ => ?_) (fun _ => ?_) | refine brI (fun _ => ?_) (fun _ => ?_))
    all_goals refine ⟨?_, hS.ext⟩
    all_goals first | rfl | (exfalso; rename_i h; first | exact h rfl | (apply h; dsimp only; omega) | (rename_i h2 _; exact h2 rfl) | (rename_i h2 _; apply h2; dsimp only; omega)) | trace_state

theorem tableFills_walk {E : Nat → Addr} (W : World) (args : List Value) (hE : Errs W E W.heap.size allErrs) (hh : Handle W) (ha : ArgsOk Tryd.prog W [3, 3, 55, 3] args) :
    CallC Tryd.prog 11 args.toArray W fun v w' => v = .bool true ∧ Ext No W w' := by
  obtain ⟨v0, args, rfl, h0, ha⟩ := ha.cons
  obtain ⟨v1, args, rfl, h1, ha⟩ := ha.cons
  obtain ⟨v2, args, rfl, h2, ha⟩ := ha.cons
  obtain ⟨v3, args, rfl, h3, ha⟩ := ha.cons
  obtain rfl := ha.nil
  obtain ⟨x0, rfl, _⟩ := arg_int Tryd.underlying3 h0
  obtain ⟨x1, rfl, _⟩ := arg_int Tryd.underlying3 h1
  obtain ⟨x3, rfl, _⟩ := arg_int Tryd.underlying3 h3
  obtain ⟨a, p, rfl⟩ : ∃ a p, v2 = .agg #[.int .i64 a, .int .i64 p] := by
    obtain ⟨ps, rfl, hk, _⟩ := arg_flat (ks := List.replicate 2 .int ++ []) Tryd.underlying55 (by kernel_rfl) ((show Tryd.prog.cellsOf 55 = 2 by kernel_rfl).trans (by simp)) h2
    obtain ⟨ns, r, rfl, hn, hr⟩ := kinds_ints 2 hk
    obtain rfl := kinds_nil hr
    obtain ⟨x, y, rfl⟩ := len2 hn
    exact ⟨x, y, rfl⟩
  exact tableFills_ok W hE hh x0 x1 a p x3
end Go.Proofs.YtnpfaghfcbbmdaaDoor
