
/-
  What the laws on tables ask first; their arguments; plain laws on searching.
-/
import Derived.Test.YteakdmngllfodaaDoorTable
import Derived.Test.YteakdmngllfodaaDoorMirrored
namespace Go.Proofs.YteakdmngllfodaaDoor
open Go Ev

/-! ### Acts -/
structure ActS where
  kind : ByteArray
  slot : Int
  f : FlowS
def encA (a : ActS) : List Value := .string a.kind :: .int .i64 a.slot :: encFlow a.f
theorem codA : Codec 10 encA := ⟨fun _ => rfl, fun _ => rfl, by decide⟩
theorem dec_act {w : World} {d : Nat} (hd : 10 ≤ d) : Dec Tryd.prog w d 40 encA (fun _ => True) := by
  intro cs h
  have h1 : flatK Tryd.prog 10 40 = some (.str :: (List.replicate 9 .int ++ [])) := by kernel_rfl
  have h2 : Tryd.prog.cellsOf 40 = (PK.str :: (List.replicate 9 PK.int ++ [])).length := (show Tryd.prog.cellsOf 40 = 10 by kernel_rfl).trans (by simp)
  obtain ⟨ps, rfl, hk, hok⟩ := shp_flat 10 d _ _ cs h1 hd h2 h
  obtain ⟨p, r, rfl, hp, hr⟩ := kinds_cons hk
  obtain ⟨s, rfl⟩ := k_str hp
  obtain ⟨ns, r, rfl, hn, hr⟩ := kinds_ints 9 hr
  obtain rfl := kinds_nil hr
  match ns, hn with
  | [x1, x2, x3, x4, x5, x6, x7, x8, x9], _ => exact ⟨⟨s, x1, ⟨x2, x3, x4, x5, x6, x7, x8, x9⟩⟩, rfl, trivial⟩

/-! ### Searching -/
theorem idxI_neg {α : Type} (p : α → Bool) (xs : List α) (k : Nat) : idxI p xs k < 0 ↔ ∀ x ∈ xs, p x = false := by
  have h := idxI_nonneg p xs k
  constructor
  · intro h1 x hx
    cases hp : p x
    · rfl
    · have : xs.any p = true := List.any_eq_true.2 ⟨x, hx, hp⟩
      rw [← h] at this
      omega
  · intro h1
    have : xs.any p = false := List.any_eq_false.2 fun x hx => by simp [h1 x hx]
    rw [this] at h
    simp only [Bool.false_eq_true, eq_iff_iff, iff_false] at h
    omega
theorem idxI_at {α : Type} (p : α → Bool) : ∀ (xs : List α) (k j : Nat) (x : α), xs[j]? = some x → p x = true → (∀ (i : Nat) y, i < j → xs[i]? = some y → p y = false) → idxI p xs k = (k : Int) + j
  | [], _, _, _, h, _, _ => by simp at h
  | y :: xs, k, 0, x, h, hp, _ => by
    simp only [List.getElem?_cons_zero, Option.some.injEq] at h
    subst h
    simp [idxI, hp]
  | y :: xs, k, j + 1, x, h, hp, hn => by
    have h0 := hn 0 y (by omega) rfl
    unfold idxI
    rw [h0]
    simp only
    rw [idxI_at p xs (k + 1) j x (by simpa using h) hp (fun i z hi hz => hn (i + 1) z (by omega) (by simpa using hz))]
    omega
theorem idxI_spec {α : Type} (p : α → Bool) : ∀ (xs : List α) (k : Nat), 0 ≤ idxI p xs k → ∃ (j : Nat) (x : α), xs[j]? = some x ∧ p x = true ∧ idxI p xs k = (k : Int) + j ∧ ∀ (i : Nat) y, i < j → xs[i]? = some y → p y = false
  | [], k, h => by simp [idxI] at h
  | x :: xs, k, h => by
    cases hp : p x
    · unfold idxI at h ⊢
      rw [hp] at h ⊢
      obtain ⟨j, y, h1, h2, h3, h4⟩ := idxI_spec p xs (k + 1) h
      refine ⟨j + 1, y, by simpa using h1, h2, ?_, ?_⟩
      · show idxI p xs (k + 1) = _
        omega
      · intro i z hi hz
        cases i with
        | zero => simp at hz; subst hz; exact hp
        | succ i => exact h4 i z (by omega) (by simpa using hz)
    · refine ⟨0, x, rfl, hp, ?_, fun i y hi => by omega⟩
      unfold idxI
      rw [hp]
      simp

theorem listed_add : ∃ T, (MirS.mk 2024 emptyCells).add 1 0 1 0 2 2 9 = ((0, 0), T) ∧ T.cells.length = 32 ∧ T.cells[0]? = some ⟨0, 1, ⟨1, 0, 1, 0, 2, 2024, 2, 9⟩⟩ := ⟨((MirS.mk 2024 emptyCells).add 1 0 1 0 2 2 9).2, by kernel_rfl, by kernel_rfl, by kernel_rfl⟩
theorem ver_empty (f : Int) : VerOk ⟨f, emptyCells⟩ := by
  intro c hc
  simp only [emptyCells, List.mem_map] at hc
  obtain ⟨i, _, rfl⟩ := hc
  exact ⟨Int.le_refl _, by dsimp only; omega⟩

theorem listed_ok {E : Nat → Addr} (w : World) {n : Nat} (hE : Errs w E n [2, 5, 6]) (hn : n ≤ w.heap.size) : CallC Tryd.prog 30 #[] w fun v w' => v = .bool true ∧ Ext No w w' := by
  obtain ⟨T, ht, hl, hc⟩ := listed_add
  refine fn_intro tabOk Tryd.func30 (by kernel_rfl) rfl Tryd.ntmps30 (Nat.le_of_ble_eq_true rfl) ?_
  have hS := St.start w No
  (conv => whnf)
  refine (tnew_ok 1 w (.inr rfl)).mono ?_
  rintro v w' ⟨b, rfl, hb, hx, hB⟩
  replace hS := hS.made hx (blk_local _ _ _) hB (by simp [blk]; exact ⟨hb, hB.lt⟩)
  have fb := hS.fresh 0 rfl
  (conv => whnf)
  refine (tadd_ok (n := n) 1 0 1 0 2 2 9 (hS.blk 0 rfl) emptyCells_len (ver_empty _) (by decide) ((hE.sub rfl).ext hS.ext fun _ h => h.elim) (by omega)).mono ?_
  rw [show (2000 : Int) + 1 * 24 = 2024 from rfl, ht]
  rintro v w' ⟨rfl, hx, hB⟩
  replace hS := hS.upd 0 rfl hx (fun c hc => by subst hc; exact List.mem_singleton.2 rfl) (blk_local _ _ _) hB (fun c hc => .inl hc)
  (conv => whnf)
  refine (tget_ok 0 (hS.blk 0 rfl) (by decide) (by decide) hc).mono ?_
  rintro v w' ⟨rfl, hx⟩
  replace hS := hS.no hx
  (conv => whnf)
  refine hS.new (fun bc w' hbc hS => ?_)
  (conv => whnf)
  refine hS.st 1 rfl (Nat.le_of_ble_eq_true rfl) rfl (fun w' hS => ?_)
  repeat' ((conv => whnf); first | refine RetC.mk ?_ | refine NzC.mk (by decide) ?_ | refine RngC.mk (by omega) (by omega) ?_ | refine IdxC.mk (by omega) (by omega) ?_ | refine hS.ld 1 rfl rfl ?_ | refine brD (fun _ => ?_) (fun _ => ?_) | refine brND (fun _ => ?_) (fun _ => ?_) | refine brN (fun _ => ?_) (fun _ => ?_) | refine brI (fun _ => ?_) (fun _ => ?_))
  exact ⟨rfl, hS.ext⟩
end Go.Proofs.YteakdmngllfodaaDoor
