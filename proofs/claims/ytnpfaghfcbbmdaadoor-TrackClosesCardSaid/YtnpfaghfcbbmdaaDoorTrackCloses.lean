/-
  TrackCloses returns true whatever its arguments.
-/
import Derived.Test.YtnpfaghfcbbmdaaDoorTrack
import Derived.Test.YtnpfaghfcbbmdaaDoorLawA
namespace Go.Proofs.YtnpfaghfcbbmdaaDoor
open Go Ev

abbrev encI (x : Int) : List Value := [.int .i64 x]
abbrev encB (x : Bool) : List Value := [.bool x]

theorem nextS_gone {s f : Int} {o : Bool} (h : (nextS 2 s f o).2 = true) : band f 8 ≠ 0 := by
  intro h8
  unfold nextS at h
  by_cases h4 : band f 4 = 0
  · simp only [h8, h4, ne_eq, not_true_eq_false, if_false] at h
    split at h <;> cases h
  · simp [h8, h4] at h

theorem closes_inv {s f : Int} {o c a : Bool} (hs : s = 1 ∨ s = 2 ∨ s = 3) (h1 : c = true → s = 3) (h2 : s = 2 → a = true) (hg : (nextS 2 s f o).2 = false) :
    ((nextS 2 s f o).1 = 1 ∨ (nextS 2 s f o).1 = 2 ∨ (nextS 2 s f o).1 = 3) ∧ ((nextS 2 s f o).1 = 2 → c = false ∧ (a = true ∨ o = false)) ∧ (c = true → (nextS 2 s f o).1 = 3) := by
  unfold nextS at hg ⊢
  by_cases h8 : band f 8 = 0
  · by_cases h4 : band f 4 = 0
    · simp only [h8, h4, ne_eq, not_true_eq_false, if_false] at hg ⊢
      split
      · rename_i h
        refine ⟨.inr (.inl rfl), fun _ => ⟨?_, .inr h.2.1⟩, fun hc => ?_⟩
        · cases c
          · rfl
          · have := h1 rfl; omega
        · have := h1 hc; omega
      · refine ⟨hs, fun h => ⟨?_, .inl (h2 h)⟩, h1⟩
        cases c
        · rfl
        · have := h1 rfl
          simp only at h
          omega
    · simp [h8, h4]
  · simp [h8] at hg

theorem trackCloses_ok (W : World) (a0 a1 : Option Addr) (n0 n1 c0 c1 : Nat) (xs : List Int) (ys : List Bool) (hx : Slc W 1 encI (fun _ => True) a0 n0 xs) (hy : Slc W 1 encB (fun _ => True) a1 n1 ys) :
    CallC Tryd.prog 3 #[.slice a0 n0 c0, .slice a1 n1 c1] W fun v w' => v = .bool true ∧ Ext No W w' := by
  have hm := hx.max
  refine fn_intro tabOk Tryd.func3 (by kernel_rfl) rfl Tryd.ntmps3 (Nat.le_of_ble_eq_true rfl) ?_
  (conv => whnf)
  refine (tracked_ok _).mono ?_
  rintro v w' ⟨rfl, rfl⟩
  (conv => whnf)
  refine brD (fun h1 => ?_) (fun h1 => ?_)
  · repeat' ((conv => whnf); first | refine RetC.mk ?_ | refine RngC.mk (by omega) (by omega) ?_ | refine IdxC.mk (by omega) (by omega) ?_ | refine brD (fun _ => ?_) (fun _ => ?_) | refine brND (fun _ => ?_) (fun _ => ?_) | refine brN (fun _ => ?_) (fun _ => ?_) | refine brI (fun _ => ?_) (fun _ => ?_))
    exact ⟨rfl, Ext.refl _ _⟩
  (conv => whnf)
  refine brD (fun h2 => ?_) (fun h2 => ?_)
  · repeat' ((conv => whnf); first | refine RetC.mk ?_ | refine RngC.mk (by omega) (by omega) ?_ | refine IdxC.mk (by omega) (by omega) ?_ | refine brD (fun _ => ?_) (fun _ => ?_) | refine brND (fun _ => ?_) (fun _ => ?_) | refine brN (fun _ => ?_) (fun _ => ?_) | refine brI (fun _ => ?_) (fun _ => ?_))
    exact ⟨rfl, Ext.refl _ _⟩
  (conv => whnf)
  refine loopR tabOk (fun σ w n => ∃ (k : Nat) (s : Int) (c a : Bool), σ = [(9, .int .i64 k), (8, .bool a), (7, .bool c), (6, .int .i64 s), (1, .slice a1 n1 c1), (0, .slice a0 n0 c0)] ∧ n = n0 - k ∧ k ≤ n0 ∧ St W No w [] ∧
    (s = 1 ∨ s = 2 ∨ s = 3) ∧ (c = true → s = 3) ∧ (s = 2 → a = true)) (σ' := [(9, .int .i64 ((0 : Nat) : Int)), (8, .bool false), (7, .bool false), (6, .int .i64 1), (1, .slice a1 n1 c1), (0, .slice a0 n0 c0)]) (n := n0)
    ⟨rfl, rfl, rfl, rfl, rfl, rfl, trivial⟩ ⟨0, 1, false, false, rfl, rfl, Nat.zero_le _, St.start _ _, .inl rfl, by simp, by simp⟩ ?_
  rintro _ w n ⟨k, s, c, a, rfl, rfl, hk, hS, hs, hc, ha⟩
  (conv => whnf)
  refine brD (fun h3 => ?_) (fun h3 => ?_)
  · have hk3 : k < n0 := by omega
    obtain ⟨b0, o0, rfl, _, hf⟩ := hx.cells k (xs[k]'(by have := hx.len; omega)) (List.getElem?_eq_getElem _)
    obtain ⟨b1, o1, rfl, _, hg⟩ := hy.cells k (ys[k]'(by have := hy.len; omega)) (List.getElem?_eq_getElem _)
    generalize xs[k]'_ = f at hf
    generalize ys[k]'_ = o at hg
    have hf := hf 0 _ rfl
    have hg := hg 0 _ rfl
    (conv => whnf)
    refine drawS tabOk mixed [] No [0, 1, 2, 3, 4, 5, 6, 7, 8, 9, 10, 11, 12, 13, 14] (by kernel_rfl) ?_
    rintro w1 rfl
    replace hS := hS.drew
    repeat' ((conv => whnf); first | refine IdxC.mk (by omega) (by omega) ?_ | refine hS.ldrF hf id id ?_ | refine hS.ldrF hg id id ?_)
    refine (next_ok _ _ _ _ _).mono ?_
    rintro v w' ⟨rfl, rfl⟩
    refine KeepC.mk (Ext.refl _ _) ?_
    (conv => whnf)
    refine brI (fun h4 => ?_) (fun h4 => ?_)
    · have h8 := nextS_gone h4
      repeat' ((conv => whnf); first | refine IdxC.mk (by omega) (by omega) ?_ | refine hS.ldr hf id ?_ | refine RetC.mk ?_)
      exact ⟨by simpa using h8, hS.ext⟩
    · obtain ⟨i1, i2, i3⟩ := closes_inv (c := c) (a := a) hs hc ha h4
      generalize (nextS 2 s f o).1 = t at i1 i2 i3
      repeat' ((conv => whnf); first | refine IdxC.mk (by omega) (by omega) ?_ | refine RngC.mk (by omega) (by omega) ?_ | refine hS.ldr hg id ?_ | refine RetC.mk ?_ | refine brD (fun _ => ?_) (fun _ => ?_) | refine brN (fun _ => ?_) (fun _ => ?_) | refine brI (fun _ => ?_) (fun _ => ?_))
      all_goals first | (exfalso; simp_all; done) | (exfalso; omega) | (((conv => whnf)); refine LoopE.mk ⟨_, [(9, .int .i64 ((k + 1 : Nat) : Int)), (8, .bool _), (7, .bool _), (6, .int .i64 t), (1, _), (0, _)], ?_, ⟨rfl, rfl, rfl, rfl, rfl, rfl, trivial⟩, ⟨k + 1, t, _, _, rfl, rfl, by omega, hS, i1, ?_, ?_⟩⟩)
      all_goals first | omega | (simp_all; done) | trace_state
  · repeat' ((conv => whnf); first | refine RetC.mk ?_ | refine RngC.mk (by omega) (by omega) ?_ | refine IdxC.mk (by omega) (by omega) ?_ | refine brD (fun _ => ?_) (fun _ => ?_) | refine brND (fun _ => ?_) (fun _ => ?_) | refine brN (fun _ => ?_) (fun _ => ?_) | refine brI (fun _ => ?_) (fun _ => ?_))
    exact ⟨rfl, hS.ext⟩

theorem trackCloses_walk {L : List (String × DataW Unit)} (W : World) (args : List Value) (ha : ArgsOk Tryd.prog W [22, 23] args) (_hl : laidMetH Tryd.prog L W) :
    CallC Tryd.prog 3 args.toArray W fun v w' => v = .bool true ∧ Ext No W w' := by
  obtain ⟨v0, args, rfl, h0, ha⟩ := ha.cons
  obtain ⟨v1, args, rfl, h1, ha⟩ := ha.cons
  obtain rfl := ha.nil
  obtain ⟨a0, n0, c0, xs, rfl, hx, _⟩ := arg_slice (d := 1) (sz := 1) Tryd.underlying22 (by kernel_rfl) (by decide) (dec_int (d := 0) Tryd.underlying3) h0
  obtain ⟨a1, n1, c1, ys, rfl, hy, _⟩ := arg_slice (d := 1) (sz := 1) Tryd.underlying23 (by kernel_rfl) (by decide) (dec_bool (d := 0) Tryd.underlying4) h1
  exact trackCloses_ok W a0 a1 n0 n1 c0 c1 xs ys (hx.mono fun _ _ => trivial) (hy.mono fun _ _ => trivial)
end Go.Proofs.YtnpfaghfcbbmdaaDoor
