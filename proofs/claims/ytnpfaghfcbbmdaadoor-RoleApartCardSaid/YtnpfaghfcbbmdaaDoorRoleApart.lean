/-
  RoleApart returns true whatever its arguments.
-/
import Derived.Test.YtnpfaghfcbbmdaaDoorRole
namespace Go.Proofs.YtnpfaghfcbbmdaaDoor
open Go Ev

/-- What holds between two rounds: of the two roles, of the epochs last claimed, of all claims. -/
structure ApartI (k : Nat) (r0 r1 : RoleS) (l0 l1 : Int) (C : List Int) : Prop where
  n0 : r0.node = 0
  n1 : r1.node = 1
  s0 : r0.silence = 0
  s1 : r1.silence = 0
  p0 : 0 ≤ r0.epoch
  p1 : 0 ≤ r1.epoch
  q0 : r0.epoch ≤ 2 * k
  q1 : r1.epoch ≤ 2 * k
  a0 : r0.active = true → r0.epoch % 2 = 0
  a1 : r1.active = true → r1.epoch % 2 = 1
  i0 : l0 ≤ r0.epoch
  i1 : l1 ≤ r1.epoch
  z0 : 0 ≤ l0
  z1 : 0 ≤ l1
  c : ∀ c ∈ C, (c % 2 = 0 ∧ c ≤ l0) ∨ (c % 2 = 1 ∧ c ≤ l1)
  cl : C.length ≤ k

theorem ApartI.succ {k : Nat} {r0 r1 : RoleS} {l0 l1 : Int} {C : List Int} (h : ApartI k r0 r1 l0 l1 C) : ApartI (k + 1) r0 r1 l0 l1 C :=
  ⟨h.n0, h.n1, h.s0, h.s1, h.p0, h.p1, by have := h.q0; omega, by have := h.q1; omega, h.a0, h.a1, h.i0, h.i1, h.z0, h.z1, h.c, by have := h.cl; omega⟩

theorem ApartI.ok0 {k : Nat} {r0 r1 : RoleS} {l0 l1 : Int} {C : List Int} (h : ApartI k r0 r1 l0 l1 C) (hk : k ≤ 200) : r0.Ok := ⟨.inl h.n0, h.p0, by have := h.q0; omega, by rw [h.s0]; decide, by rw [h.s0]; decide⟩
theorem ApartI.ok1 {k : Nat} {r0 r1 : RoleS} {l0 l1 : Int} {C : List Int} (h : ApartI k r0 r1 l0 l1 C) (hk : k ≤ 200) : r1.Ok := ⟨.inr h.n1, h.p1, by have := h.q1; omega, by rw [h.s1]; decide, by rw [h.s1]; decide⟩

/-- The next epoch of a role that is in order. -/
theorem next_of {r : RoleS} (h : r.Ok) (h2 : r.epoch ≤ 400) : ∃ e, r.next = (e, 0) ∧ r.epoch < e ∧ e ≤ r.epoch + 2 ∧ e % 2 = r.node := by
  have hn := h.n0
  have h0 := h.e0
  unfold RoleS.next
  rw [tmod2 (by omega)]
  by_cases hm : (r.epoch + 1) % 2 = r.node
  · refine ⟨r.epoch + 1, ?_, by omega, by omega, hm⟩
    rw [if_neg (show ¬ ((r.epoch + 1) % 2 ≠ r.node) from fun h => h hm)]
    exact if_neg (by omega)
  · refine ⟨r.epoch + 1 + 1, ?_, by omega, by omega, by omega⟩
    rw [if_pos (show (r.epoch + 1) % 2 ≠ r.node from hm)]
    exact if_neg (by omega)

theorem claim_of {r : RoleS} {e : Int} (h : r.next = (e, 0)) (ha : r.active = false) : r.claim e = (0, { r with active := true, epoch := e }) := by
  simp [RoleS.claim, h, ha]

theorem hear_of {r : RoleS} {e : Int} (h0 : 0 ≤ e) (h1 : e ≤ 1073741824) (hs : r.silence = 0) : (r.hear e).2 = if e > r.epoch then { r with epoch := e, active := false } else r := by
  obtain ⟨n, ep, s, a⟩ := r
  simp only at hs
  subst hs
  unfold RoleS.hear
  rw [if_neg (by omega)]
  by_cases h : e > ep
  · simp [h]
  · simp only [if_neg h]
    split <;> rfl

theorem ApartI.claim0 {k : Nat} {r0 r1 : RoleS} {l0 l1 : Int} {C : List Int} (h : ApartI k r0 r1 l0 l1 C) {e : Int} (h1 : r0.epoch < e) (h2 : e ≤ r0.epoch + 2) (h3 : e % 2 = 0) : ApartI (k + 1) { r0 with active := true, epoch := e } r1 e l1 (C ++ [e]) := by
  obtain ⟨n0, n1, s0, s1, p0, p1, q0, q1, a0, a1, i0, i1, z0, z1, c, cl⟩ := h
  refine ⟨n0, n1, s0, s1, ?_, p1, ?_, ?_, fun _ => h3, a1, Int.le_refl _, i1, ?_, z1, ?_, by simp; omega⟩
  · show 0 ≤ e; omega
  · show e ≤ 2 * ((k + 1 : Nat) : Int); omega
  · omega
  · omega
  · intro x hx
    rcases List.mem_append.1 hx with hx | hx
    · have := c x hx
      omega
    · obtain rfl : x = e := by simpa using hx
      exact .inl ⟨h3, Int.le_refl _⟩
theorem ApartI.claim1 {k : Nat} {r0 r1 : RoleS} {l0 l1 : Int} {C : List Int} (h : ApartI k r0 r1 l0 l1 C) {e : Int} (h1 : r1.epoch < e) (h2 : e ≤ r1.epoch + 2) (h3 : e % 2 = 1) : ApartI (k + 1) r0 { r1 with active := true, epoch := e } l0 e (C ++ [e]) := by
  obtain ⟨n0, n1, s0, s1, p0, p1, q0, q1, a0, a1, i0, i1, z0, z1, c, cl⟩ := h
  refine ⟨n0, n1, s0, s1, p0, ?_, ?_, ?_, a0, fun _ => h3, i0, Int.le_refl _, z0, ?_, ?_, by simp; omega⟩
  · show 0 ≤ e; omega
  · omega
  · show e ≤ 2 * ((k + 1 : Nat) : Int); omega
  · omega
  · intro x hx
    rcases List.mem_append.1 hx with hx | hx
    · have := c x hx
      omega
    · obtain rfl : x = e := by simpa using hx
      exact .inr ⟨h3, Int.le_refl _⟩
theorem ApartI.hear0 {k : Nat} {r0 r1 : RoleS} {l0 l1 : Int} {C : List Int} (h : ApartI k r0 r1 l0 l1 C) (hk : k ≤ 200) (ha : r1.active = true) : ApartI (k + 1) (r0.hear r1.epoch).2 r1 l0 l1 C ∧ ((r0.hear r1.epoch).2.active = true → r1.epoch < (r0.hear r1.epoch).2.epoch) := by
  obtain ⟨n0, n1, s0, s1, p0, p1, q0, q1, a0, a1, i0, i1, z0, z1, c, cl⟩ := h
  rw [hear_of p1 (by omega) s0]
  have := a1 ha
  split
  · refine ⟨⟨n0, n1, s0, s1, p1, p1, ?_, ?_, (fun h => by cases h), a1, ?_, i1, z0, z1, c, by omega⟩, fun h => by cases h⟩
    · show r1.epoch ≤ 2 * ((k + 1 : Nat) : Int); omega
    · omega
    · show l0 ≤ r1.epoch; omega
  · refine ⟨⟨n0, n1, s0, s1, p0, p1, by omega, by omega, a0, a1, i0, i1, z0, z1, c, by omega⟩, fun h => ?_⟩
    have := a0 h
    omega
theorem ApartI.hear1 {k : Nat} {r0 r1 : RoleS} {l0 l1 : Int} {C : List Int} (h : ApartI k r0 r1 l0 l1 C) (hk : k ≤ 200) (ha : r0.active = true) : ApartI (k + 1) r0 (r1.hear r0.epoch).2 l0 l1 C ∧ ((r1.hear r0.epoch).2.active = true → r0.epoch < (r1.hear r0.epoch).2.epoch) := by
  obtain ⟨n0, n1, s0, s1, p0, p1, q0, q1, a0, a1, i0, i1, z0, z1, c, cl⟩ := h
  rw [hear_of p0 (by omega) s1]
  have := a0 ha
  split
  · refine ⟨⟨n0, n1, s0, s1, p0, p0, ?_, ?_, a0, (fun h => by cases h), i0, ?_, z0, z1, c, by omega⟩, fun h => by cases h⟩
    · omega
    · show r0.epoch ≤ 2 * ((k + 1 : Nat) : Int); omega
    · show l1 ≤ r0.epoch; omega
  · refine ⟨⟨n0, n1, s0, s1, p0, p1, by omega, by omega, a0, a1, i0, i1, z0, z1, c, by omega⟩, fun h => ?_⟩
    have := a1 h
    omega

theorem roleApart_ok {E : Nat → Addr} (W : World) (hE : Errs W E W.heap.size [2, 3, 11]) (a0 : Option Addr) (n0 c0 : Nat) (xs : List Int) (hx0 : Slc W 1 encI (fun x => -9223372036854775808 ≤ x ∧ x ≤ 9223372036854775807) a0 n0 xs) :
    CallC Tryd.prog 5 #[.slice a0 n0 c0] W fun v w' => v = .bool true ∧ Ext No W w' := by
  have hm := hx0.max
  refine fn_intro tabOk Tryd.func5 (by kernel_rfl) rfl Tryd.ntmps5 (Nat.le_of_ble_eq_true rfl) ?_
  have hS := St.start W No
  (conv => whnf)
  refine (stands_ok _ hE (Nat.le_refl _)).mono ?_
  rintro v w' ⟨rfl, hx⟩
  replace hS := hS.no hx
  (conv => whnf)
  refine brD (fun h3 => ?_) (fun h3 => ?_)
  · repeat' ((conv => whnf); first | refine RetC.mk ?_ | refine NzC.mk (by decide) ?_ | refine RngC.mk (by omega) (by omega) ?_ | refine IdxC.mk (by omega) (by omega) ?_ | refine brD (fun _ => ?_) (fun _ => ?_) | refine brND (fun _ => ?_) (fun _ => ?_) | refine brN (fun _ => ?_) (fun _ => ?_) | refine brI (fun _ => ?_) (fun _ => ?_))
    exact ⟨rfl, hS.ext⟩
  (conv => whnf)
  refine (role_new 0 0 _ (by decide) (by decide) (by decide)).mono ?_
  rintro v w' ⟨b0, rfl, hb, hx, hB⟩
  replace hS := hS.made hx (blk_local _ _ _) hB (by simp [blk]; exact ⟨hb, hB.lt⟩)
  (conv => whnf)
  refine (role_new 1 0 _ (by decide) (by decide) (by decide)).mono ?_
  rintro v w' ⟨b1, rfl, hb, hx, hB⟩
  replace hS := hS.made hx (blk_local _ _ _) hB (by simp [blk]; exact ⟨hb, hB.lt⟩)
  have hb0 := hS.fresh 0 rfl
  have hb1 := hS.fresh 1 rfl
  (conv => whnf)
  refine hS.lit (cs := [.pointer (some ⟨b0, 0, none⟩), .pointer (some ⟨b1, 0, none⟩)]) Tryd.underlying40 (sz := 1) (by kernel_rfl) (z := .pointer none) (by kernel_rfl) rfl rfl (by rfl) (fun bn w' hbn hS => ?_)
  (conv => whnf)
  refine hS.lit (cs := [.int .i64 0, .int .i64 0]) Tryd.underlying22 (sz := 1) (by kernel_rfl) (z := .int .i64 0) (by kernel_rfl) rfl rfl (by rfl) (fun bl w' hbl hS => ?_)
  have hS := hS.add (own_local 3 1 (.slice none 0 0) 0 []) (own_nil _ _ _) (by simp [own, Value.ownBlock]) (by simp [own, Value.ownBlock])
  (conv => whnf)
  refine loopR tabOk (fun σ w n => ∃ (k : Nat) (r0 r1 : RoleS) (l0 l1 : Int) (C : List Int) (ac : Option Addr) (nc cc : Nat), σ = [(11, .int .i64 k), (10, .slice ac nc cc), (9, .slice (some ⟨bl, 0, none⟩) 2 2), (8, .slice (some ⟨bn, 0, none⟩) 2 2), (6, .pointer (some ⟨b1, 0, none⟩)), (4, .pointer (some ⟨b0, 0, none⟩)), (0, .slice a0 n0 c0)] ∧ n = n0 - k ∧ k ≤ n0 ∧
    St W No w [blk b0 96 (encRole r0), blk b1 96 (encRole r1), blk bn 37 [.pointer (some ⟨b0, 0, none⟩), .pointer (some ⟨b1, 0, none⟩)], blk bl 3 [.int .i64 l0, .int .i64 l1], own 3 1 (.slice ac nc cc) C.length (C.map (Value.int .i64))] ∧ ApartI k r0 r1 l0 l1 C)
    (σ' := [(11, .int .i64 ((0 : Nat) : Int)), (10, .slice none 0 0), (9, .slice (some ⟨bl, 0, none⟩) 2 2), (8, .slice (some ⟨bn, 0, none⟩) 2 2), (6, .pointer (some ⟨b1, 0, none⟩)), (4, .pointer (some ⟨b0, 0, none⟩)), (0, .slice a0 n0 c0)]) (n := n0)
    ⟨rfl, rfl, rfl, rfl, rfl, rfl, rfl, trivial⟩ ⟨0, ⟨0, 0, 0, false⟩, ⟨1, 0, 0, false⟩, 0, 0, [], none, 0, 0, rfl, rfl, Nat.zero_le _, hS, by constructor <;> simp⟩ ?_
  clear hS
  rintro _ w n ⟨k, r0, r1, l0, l1, C, ac, nc, cc, rfl, rfl, hk, hS, hI⟩
  (conv => whnf)
  refine brD (fun h4 => ?_) (fun h4 => ?_)
  · have hk3 : k < n0 := by omega
    obtain ⟨ba, oa, x, _, hxr, rfl, hf⟩ := hx0.at1 hk3
    have hf := hf 0 _ rfl
    have o0 := hI.ok0 (by omega)
    have o1 := hI.ok1 (by omega)
    (conv => whnf)
    refine IdxC.mk (by omega) (by omega) ?_
    (conv => whnf)
    refine hS.ldr hf id ?_
    (conv => whnf)
    refine brD (fun h5 => ?_) (fun h5 => ?_)
    · (conv => whnf)
      refine RngC.mk (by omega) (by omega) ?_
      (conv => whnf)
      exact LoopE.mk ⟨_, [(11, .int .i64 ((k + 1 : Nat) : Int)), (10, _), (9, _), (8, _), (6, _), (4, _), (0, _)], by omega, ⟨rfl, rfl, rfl, rfl, rfl, rfl, rfl, trivial⟩, ⟨k + 1, r0, r1, l0, l1, C, ac, nc, cc, rfl, rfl, by omega, hS, hI.succ⟩⟩
    · have hdiv : x.tdiv 2 = x / 2 := Int.tdiv_eq_ediv_of_nonneg (by omega)
      obtain ⟨rfl, _, _, _⟩ := hS.own_at 4 rfl
      have hcl := hI.cl
      rcases (show x.tmod 2 = 0 ∨ x.tmod 2 = 1 by rw [tmod2 (by omega)]; omega) with hmod | hmod
      ·
        have hmod2 : x.tmod 2 = 0 := hmod
        repeat' ((conv => whnf); first | refine NzC.mk (by decide) ?_ | refine RngC.mk (by rw [hmod2]; omega) (by rw [hmod2]; omega) ?_ | refine RngC.mk (by rw [hdiv]; omega) (by rw [hdiv]; omega) ?_ | refine IdxC.mk (by rw [hmod2]; omega) (by rw [hmod2]; omega) ?_ | refine hS.ld 2 rfl (v := .pointer (some ⟨b0, 0, none⟩)) (by rw [hmod2]; rfl) ?_ | refine hS.ld 2 rfl (v := .pointer (some ⟨b1, 0, none⟩)) (by rw [hmod2]; rfl) ?_ | refine brD (fun h6 => ?_) (fun h6 => ?_))
        · refine CallC.mono (role_next (hS.blk 0 rfl) o0 ((hE.ext hS.ext fun _ h => h.elim).sub rfl)) ?_
          obtain ⟨e, he, he1, he2, he3⟩ := next_of o0 (by have := hI.q0; omega)
          rw [he]
          rintro v w' ⟨rfl, hx⟩
          replace hS := hS.no hx
          (conv => whnf)
          refine (role_active (hS.blk 0 rfl)).mono ?_
          rintro v w' ⟨rfl, rfl⟩
          (conv => whnf)
          refine brI (fun h7 => ?_) (fun h7 => ?_)
          · (conv => whnf)
            refine RngC.mk (by omega) (by omega) ?_
            (conv => whnf)
            exact LoopE.mk ⟨_, [(11, .int .i64 ((k + 1 : Nat) : Int)), (10, _), (9, _), (8, _), (6, _), (4, _), (0, _)], by omega, ⟨rfl, rfl, rfl, rfl, rfl, rfl, rfl, trivial⟩, ⟨k + 1, r0, r1, l0, l1, C, ac, _, cc, rfl, rfl, by omega, hS, hI.succ⟩⟩
          · have hcl := claim_of he h7
            have hnode := hI.n0
            have hz := hI.z0
            have hil := hI.i0
            have hno : ∀ c ∈ C, c ≠ e := fun c hc => by have := hI.c c hc; omega
            (conv => whnf)
            refine (role_claim e (hS.blk 0 rfl) o0 (hE.ext hS.ext fun _ h => h.elim) hb0).mono ?_
            rw [hcl]
            rintro v w' ⟨rfl, hx, hB⟩
            replace hS := hS.upd 0 rfl hx (fun c hc => by subst hc; exact List.mem_singleton.2 rfl) (blk_local _ _ _) hB (fun c hc => .inl hc)
            have hI := hI.claim0 he1 he2 (by omega)
            have hm2 : e.tmod 2 = 0 := by rw [tmod2 (by omega)]; omega
            repeat' ((conv => whnf); first | refine NzC.mk (by decide) ?_ | refine IdxC.mk (by rw [hmod2]; omega) (by rw [hmod2]; omega) ?_ | refine hS.ld 3 rfl (v := .int .i64 l0) (by rw [hmod2]; rfl) ?_ | refine brD (fun h6 => ?_) (fun h6 => ?_) | refine brND (fun h6 => ?_) (fun h6 => ?_))
            · exfalso; omega
            · exfalso; exact h6 (by rw [hm2, hmod2])
            · refine loopR tabOk (fun σ w n => ∃ (j : Nat), σ = [(17, .int .i64 j), (15, .int .i64 e), (12, .int .i64 x), (11, .int .i64 k), (10, .slice ac C.length cc), (9, .slice (some ⟨bl, 0, none⟩) 2 2), (8, .slice (some ⟨bn, 0, none⟩) 2 2), (6, .pointer (some ⟨b1, 0, none⟩)), (4, .pointer (some ⟨b0, 0, none⟩)), (0, .slice (some ⟨ba, oa, none⟩) n0 c0)] ∧ n = C.length - j ∧ j ≤ C.length ∧
                St W No w [blk b0 96 (encRole { r0 with active := true, epoch := e }), blk b1 96 (encRole r1), blk bn 37 [.pointer (some ⟨b0, 0, none⟩), .pointer (some ⟨b1, 0, none⟩)], blk bl 3 [.int .i64 l0, .int .i64 l1], own 3 1 (.slice ac C.length cc) C.length (C.map (Value.int .i64))])
                (σ' := [(17, .int .i64 ((0 : Nat) : Int)), (15, .int .i64 e), (12, .int .i64 x), (11, .int .i64 k), (10, .slice ac C.length cc), (9, .slice (some ⟨bl, 0, none⟩) 2 2), (8, .slice (some ⟨bn, 0, none⟩) 2 2), (6, .pointer (some ⟨b1, 0, none⟩)), (4, .pointer (some ⟨b0, 0, none⟩)), (0, .slice (some ⟨ba, oa, none⟩) n0 c0)]) (n := C.length)
                ⟨rfl, rfl, rfl, rfl, rfl, rfl, rfl, rfl, rfl, rfl, trivial⟩ ⟨0, rfl, rfl, Nat.zero_le _, hS⟩ ?_
              clear hS
              rintro _ w n ⟨j, rfl, rfl, hj, hS⟩
              (conv => whnf)
              refine brD (fun h8 => ?_) (fun h8 => ?_)
              · have hj2 : j < C.length := by omega
                obtain ⟨_, _, _, hcells⟩ := hS.own_at 4 rfl
                obtain ⟨g, rfl, hcell⟩ := hcells j (.int .i64 C[j]) (by rw [List.getElem?_map, List.getElem?_eq_getElem hj2]; rfl)
                have hcell : w.cell? ⟨g, 0 + j * 1, none⟩ = some (.int .i64 C[j]) := by rw [Nat.mul_one]; exact hcell
                (conv => whnf)
                refine IdxC.mk (by omega) (by omega) ?_
                (conv => whnf)
                refine ⟨_, hcell, ?_⟩
                (conv => whnf)
                refine brD (fun h9 => ?_) (fun h9 => ?_)
                · exact absurd h9 (hno _ (List.getElem_mem hj2))
                · (conv => whnf)
                  refine RngC.mk (by omega) (by omega) ?_
                  (conv => whnf)
                  exact LoopE.mk ⟨_, [(17, .int .i64 ((j + 1 : Nat) : Int)), (15, _), (12, _), (11, _), (10, _), (9, _), (8, _), (6, _), (4, _), (0, _)], by omega, ⟨rfl, rfl, rfl, rfl, rfl, rfl, rfl, rfl, rfl, rfl, trivial⟩, ⟨j + 1, rfl, rfl, by omega, hS⟩⟩
              · (conv => whnf)
                refine hS.lit (cs := [.int .i64 e]) Tryd.underlying22 (sz := 1) (by kernel_rfl) (z := .int .i64 0) (by kernel_rfl) rfl rfl (by rfl) (fun bt w' hbt hS => ?_)
                (conv => whnf)
                refine hS.app 4 5 Tryd.underlying22 (size := 1) (bytes := 8) (by kernel_rfl) (z := .int .i64 0) (by kernel_rfl) rfl rfl rfl rfl rfl rfl rfl (by unfold maxLen; omega) (by omega) (fun g cap w' hS => ?_)
                (conv => whnf)
                refine NzC.mk (by decide) ?_
                (conv => whnf)
                refine IdxC.mk (by rw [hmod2]; omega) (by rw [hmod2]; omega) ?_
                (conv => whnf)
                refine hS.stAt 3 0 rfl (by rw [hmod2]; rfl) (Nat.le_of_ble_eq_true rfl) rfl (fun w' hS => ?_)
                (conv => whnf)
                refine RngC.mk (by omega) (by omega) ?_
                (conv => whnf)
                have e1 : (C ++ [e]).map (Value.int .i64) = C.map (Value.int .i64) ++ [.int .i64 e] := by simp
                have e2 : (C ++ [e]).length = C.length + 1 := by simp
                refine LoopE.mk ⟨_, [(11, .int .i64 ((k + 1 : Nat) : Int)), (10, .slice (some ⟨g, 0, none⟩) (C.length + 1) cap), (9, _), (8, _), (6, _), (4, _), (0, _)], ?_, ⟨rfl, rfl, rfl, rfl, rfl, rfl, rfl, trivial⟩, ⟨k + 1, { r0 with active := true, epoch := e }, r1, e, l1, C ++ [e], _, _, cap, rfl, rfl, by omega, ?_, hI⟩⟩
                · omega
                · rw [e1, e2]
                  exact hS.keep 5
        · refine (role_active (hS.blk 1 rfl)).mono ?_
          rintro v w' ⟨rfl, rfl⟩
          (conv => whnf)
          refine brI (fun h7 => ?_) (fun h7 => ?_)
          · have hh := hI.hear0 (by omega) h7
            (conv => whnf)
            refine (role_epoch (hS.blk 1 rfl)).mono ?_
            rintro v w' ⟨rfl, rfl⟩
            (conv => whnf)
            refine (role_hear _ (hS.blk 0 rfl)).mono ?_
            rintro v w' ⟨rfl, hx, hB⟩
            replace hS := hS.upd 0 rfl hx (fun c hc => by subst hc; exact List.mem_singleton.2 rfl) (blk_local _ _ _) hB (fun c hc => .inl hc)
            (conv => whnf)
            refine (role_active (hS.blk 0 rfl)).mono ?_
            rintro v w' ⟨rfl, rfl⟩
            (conv => whnf)
            refine brI (fun h8 => ?_) (fun h8 => ?_)
            · have hh2 := hh.2 h8
              (conv => whnf)
              refine (role_epoch (hS.blk 0 rfl)).mono ?_
              rintro v w' ⟨rfl, rfl⟩
              (conv => whnf)
              refine (role_epoch (hS.blk 1 rfl)).mono ?_
              rintro v w' ⟨rfl, rfl⟩
              (conv => whnf)
              refine brD (fun h9 => ?_) (fun h9 => ?_)
              · exfalso; omega
              · (conv => whnf)
                refine RngC.mk (by omega) (by omega) ?_
                (conv => whnf)
                exact LoopE.mk ⟨_, [(11, .int .i64 ((k + 1 : Nat) : Int)), (10, _), (9, _), (8, _), (6, _), (4, _), (0, _)], by omega, ⟨rfl, rfl, rfl, rfl, rfl, rfl, rfl, trivial⟩, ⟨k + 1, _, _, l0, l1, C, ac, _, cc, rfl, rfl, by omega, hS, hh.1⟩⟩
            · (conv => whnf)
              refine RngC.mk (by omega) (by omega) ?_
              (conv => whnf)
              exact LoopE.mk ⟨_, [(11, .int .i64 ((k + 1 : Nat) : Int)), (10, _), (9, _), (8, _), (6, _), (4, _), (0, _)], by omega, ⟨rfl, rfl, rfl, rfl, rfl, rfl, rfl, trivial⟩, ⟨k + 1, _, _, l0, l1, C, ac, _, cc, rfl, rfl, by omega, hS, hh.1⟩⟩
          · (conv => whnf)
            refine RngC.mk (by omega) (by omega) ?_
            (conv => whnf)
            exact LoopE.mk ⟨_, [(11, .int .i64 ((k + 1 : Nat) : Int)), (10, _), (9, _), (8, _), (6, _), (4, _), (0, _)], by omega, ⟨rfl, rfl, rfl, rfl, rfl, rfl, rfl, trivial⟩, ⟨k + 1, r0, r1, l0, l1, C, ac, _, cc, rfl, rfl, by omega, hS, hI.succ⟩⟩
      ·
        have hmod2 : x.tmod 2 = 1 := hmod
        repeat' ((conv => whnf); first | refine NzC.mk (by decide) ?_ | refine RngC.mk (by rw [hmod2]; omega) (by rw [hmod2]; omega) ?_ | refine RngC.mk (by rw [hdiv]; omega) (by rw [hdiv]; omega) ?_ | refine IdxC.mk (by rw [hmod2]; omega) (by rw [hmod2]; omega) ?_ | refine hS.ld 2 rfl (v := .pointer (some ⟨b1, 0, none⟩)) (by rw [hmod2]; rfl) ?_ | refine hS.ld 2 rfl (v := .pointer (some ⟨b0, 0, none⟩)) (by rw [hmod2]; rfl) ?_ | refine brD (fun h6 => ?_) (fun h6 => ?_))
        · refine CallC.mono (role_next (hS.blk 1 rfl) o1 ((hE.ext hS.ext fun _ h => h.elim).sub rfl)) ?_
          obtain ⟨e, he, he1, he2, he3⟩ := next_of o1 (by have := hI.q1; omega)
          rw [he]
          rintro v w' ⟨rfl, hx⟩
          replace hS := hS.no hx
          (conv => whnf)
          refine (role_active (hS.blk 1 rfl)).mono ?_
          rintro v w' ⟨rfl, rfl⟩
          (conv => whnf)
          refine brI (fun h7 => ?_) (fun h7 => ?_)
          · (conv => whnf)
            refine RngC.mk (by omega) (by omega) ?_
            (conv => whnf)
            exact LoopE.mk ⟨_, [(11, .int .i64 ((k + 1 : Nat) : Int)), (10, _), (9, _), (8, _), (6, _), (4, _), (0, _)], by omega, ⟨rfl, rfl, rfl, rfl, rfl, rfl, rfl, trivial⟩, ⟨k + 1, r0, r1, l0, l1, C, ac, _, cc, rfl, rfl, by omega, hS, hI.succ⟩⟩
          · have hcl := claim_of he h7
            have hnode := hI.n1
            have hz := hI.z1
            have hil := hI.i1
            have hno : ∀ c ∈ C, c ≠ e := fun c hc => by have := hI.c c hc; omega
            (conv => whnf)
            refine (role_claim e (hS.blk 1 rfl) o1 (hE.ext hS.ext fun _ h => h.elim) hb1).mono ?_
            rw [hcl]
            rintro v w' ⟨rfl, hx, hB⟩
            replace hS := hS.upd 1 rfl hx (fun c hc => by subst hc; exact List.mem_singleton.2 rfl) (blk_local _ _ _) hB (fun c hc => .inl hc)
            have hI := hI.claim1 he1 he2 (by omega)
            have hm2 : e.tmod 2 = 1 := by rw [tmod2 (by omega)]; omega
            repeat' ((conv => whnf); first | refine NzC.mk (by decide) ?_ | refine IdxC.mk (by rw [hmod2]; omega) (by rw [hmod2]; omega) ?_ | refine hS.ld 3 rfl (v := .int .i64 l1) (by rw [hmod2]; rfl) ?_ | refine brD (fun h6 => ?_) (fun h6 => ?_) | refine brND (fun h6 => ?_) (fun h6 => ?_))
            · exfalso; omega
            · exfalso; exact h6 (by rw [hm2, hmod2])
            · refine loopR tabOk (fun σ w n => ∃ (j : Nat), σ = [(17, .int .i64 j), (15, .int .i64 e), (12, .int .i64 x), (11, .int .i64 k), (10, .slice ac C.length cc), (9, .slice (some ⟨bl, 0, none⟩) 2 2), (8, .slice (some ⟨bn, 0, none⟩) 2 2), (6, .pointer (some ⟨b1, 0, none⟩)), (4, .pointer (some ⟨b0, 0, none⟩)), (0, .slice (some ⟨ba, oa, none⟩) n0 c0)] ∧ n = C.length - j ∧ j ≤ C.length ∧
                St W No w [blk b0 96 (encRole r0), blk b1 96 (encRole { r1 with active := true, epoch := e }), blk bn 37 [.pointer (some ⟨b0, 0, none⟩), .pointer (some ⟨b1, 0, none⟩)], blk bl 3 [.int .i64 l0, .int .i64 l1], own 3 1 (.slice ac C.length cc) C.length (C.map (Value.int .i64))])
                (σ' := [(17, .int .i64 ((0 : Nat) : Int)), (15, .int .i64 e), (12, .int .i64 x), (11, .int .i64 k), (10, .slice ac C.length cc), (9, .slice (some ⟨bl, 0, none⟩) 2 2), (8, .slice (some ⟨bn, 0, none⟩) 2 2), (6, .pointer (some ⟨b1, 0, none⟩)), (4, .pointer (some ⟨b0, 0, none⟩)), (0, .slice (some ⟨ba, oa, none⟩) n0 c0)]) (n := C.length)
                ⟨rfl, rfl, rfl, rfl, rfl, rfl, rfl, rfl, rfl, rfl, trivial⟩ ⟨0, rfl, rfl, Nat.zero_le _, hS⟩ ?_
              clear hS
              rintro _ w n ⟨j, rfl, rfl, hj, hS⟩
              (conv => whnf)
              refine brD (fun h8 => ?_) (fun h8 => ?_)
              · have hj2 : j < C.length := by omega
                obtain ⟨_, _, _, hcells⟩ := hS.own_at 4 rfl
                obtain ⟨g, rfl, hcell⟩ := hcells j (.int .i64 C[j]) (by rw [List.getElem?_map, List.getElem?_eq_getElem hj2]; rfl)
                have hcell : w.cell? ⟨g, 0 + j * 1, none⟩ = some (.int .i64 C[j]) := by rw [Nat.mul_one]; exact hcell
                (conv => whnf)
                refine IdxC.mk (by omega) (by omega) ?_
                (conv => whnf)
                refine ⟨_, hcell, ?_⟩
                (conv => whnf)
                refine brD (fun h9 => ?_) (fun h9 => ?_)
                · exact absurd h9 (hno _ (List.getElem_mem hj2))
                · (conv => whnf)
                  refine RngC.mk (by omega) (by omega) ?_
                  (conv => whnf)
                  exact LoopE.mk ⟨_, [(17, .int .i64 ((j + 1 : Nat) : Int)), (15, _), (12, _), (11, _), (10, _), (9, _), (8, _), (6, _), (4, _), (0, _)], by omega, ⟨rfl, rfl, rfl, rfl, rfl, rfl, rfl, rfl, rfl, rfl, trivial⟩, ⟨j + 1, rfl, rfl, by omega, hS⟩⟩
              · (conv => whnf)
                refine hS.lit (cs := [.int .i64 e]) Tryd.underlying22 (sz := 1) (by kernel_rfl) (z := .int .i64 0) (by kernel_rfl) rfl rfl (by rfl) (fun bt w' hbt hS => ?_)
                (conv => whnf)
                refine hS.app 4 5 Tryd.underlying22 (size := 1) (bytes := 8) (by kernel_rfl) (z := .int .i64 0) (by kernel_rfl) rfl rfl rfl rfl rfl rfl rfl (by unfold maxLen; omega) (by omega) (fun g cap w' hS => ?_)
                (conv => whnf)
                refine NzC.mk (by decide) ?_
                (conv => whnf)
                refine IdxC.mk (by rw [hmod2]; omega) (by rw [hmod2]; omega) ?_
                (conv => whnf)
                refine hS.stAt 3 1 rfl (by rw [hmod2]; rfl) (Nat.le_of_ble_eq_true rfl) rfl (fun w' hS => ?_)
                (conv => whnf)
                refine RngC.mk (by omega) (by omega) ?_
                (conv => whnf)
                have e1 : (C ++ [e]).map (Value.int .i64) = C.map (Value.int .i64) ++ [.int .i64 e] := by simp
                have e2 : (C ++ [e]).length = C.length + 1 := by simp
                refine LoopE.mk ⟨_, [(11, .int .i64 ((k + 1 : Nat) : Int)), (10, .slice (some ⟨g, 0, none⟩) (C.length + 1) cap), (9, _), (8, _), (6, _), (4, _), (0, _)], ?_, ⟨rfl, rfl, rfl, rfl, rfl, rfl, rfl, trivial⟩, ⟨k + 1, r0, { r1 with active := true, epoch := e }, l0, e, C ++ [e], _, _, cap, rfl, rfl, by omega, ?_, hI⟩⟩
                · omega
                · rw [e1, e2]
                  exact hS.keep 5
        · refine (role_active (hS.blk 0 rfl)).mono ?_
          rintro v w' ⟨rfl, rfl⟩
          (conv => whnf)
          refine brI (fun h7 => ?_) (fun h7 => ?_)
          · have hh := hI.hear1 (by omega) h7
            (conv => whnf)
            refine (role_epoch (hS.blk 0 rfl)).mono ?_
            rintro v w' ⟨rfl, rfl⟩
            (conv => whnf)
            refine (role_hear _ (hS.blk 1 rfl)).mono ?_
            rintro v w' ⟨rfl, hx, hB⟩
            replace hS := hS.upd 1 rfl hx (fun c hc => by subst hc; exact List.mem_singleton.2 rfl) (blk_local _ _ _) hB (fun c hc => .inl hc)
            (conv => whnf)
            refine (role_active (hS.blk 1 rfl)).mono ?_
            rintro v w' ⟨rfl, rfl⟩
            (conv => whnf)
            refine brI (fun h8 => ?_) (fun h8 => ?_)
            · have hh2 := hh.2 h8
              (conv => whnf)
              refine (role_epoch (hS.blk 1 rfl)).mono ?_
              rintro v w' ⟨rfl, rfl⟩
              (conv => whnf)
              refine (role_epoch (hS.blk 0 rfl)).mono ?_
              rintro v w' ⟨rfl, rfl⟩
              (conv => whnf)
              refine brD (fun h9 => ?_) (fun h9 => ?_)
              · exfalso; omega
              · (conv => whnf)
                refine RngC.mk (by omega) (by omega) ?_
                (conv => whnf)
                exact LoopE.mk ⟨_, [(11, .int .i64 ((k + 1 : Nat) : Int)), (10, _), (9, _), (8, _), (6, _), (4, _), (0, _)], by omega, ⟨rfl, rfl, rfl, rfl, rfl, rfl, rfl, trivial⟩, ⟨k + 1, _, _, l0, l1, C, ac, _, cc, rfl, rfl, by omega, hS, hh.1⟩⟩
            · (conv => whnf)
              refine RngC.mk (by omega) (by omega) ?_
              (conv => whnf)
              exact LoopE.mk ⟨_, [(11, .int .i64 ((k + 1 : Nat) : Int)), (10, _), (9, _), (8, _), (6, _), (4, _), (0, _)], by omega, ⟨rfl, rfl, rfl, rfl, rfl, rfl, rfl, trivial⟩, ⟨k + 1, _, _, l0, l1, C, ac, _, cc, rfl, rfl, by omega, hS, hh.1⟩⟩
          · (conv => whnf)
            refine RngC.mk (by omega) (by omega) ?_
            (conv => whnf)
            exact LoopE.mk ⟨_, [(11, .int .i64 ((k + 1 : Nat) : Int)), (10, _), (9, _), (8, _), (6, _), (4, _), (0, _)], by omega, ⟨rfl, rfl, rfl, rfl, rfl, rfl, rfl, trivial⟩, ⟨k + 1, r0, r1, l0, l1, C, ac, _, cc, rfl, rfl, by omega, hS, hI.succ⟩⟩
  · (conv => whnf)
    refine (role_active (hS.blk 0 rfl)).mono ?_
    rintro v w' ⟨rfl, rfl⟩
    (conv => whnf)
    refine brI (fun h7 => ?_) (fun h7 => ?_)
    · (conv => whnf)
      refine (role_active (hS.blk 1 rfl)).mono ?_
      rintro v w' ⟨rfl, rfl⟩
      (conv => whnf)
      refine brI (fun h8 => ?_) (fun h8 => ?_)
      · have hp0 := hI.p0
        have hp1 := hI.p1
        have hq0 := hI.q0
        have hq1 := hI.q1
        have ha0 := hI.a0 h7
        have ha1 := hI.a1 h8
        (conv => whnf)
        refine (role_epoch (hS.blk 1 rfl)).mono ?_
        rintro v w' ⟨rfl, rfl⟩
        (conv => whnf)
        refine (role_hear _ (hS.blk 0 rfl)).mono ?_
        rintro v w' ⟨rfl, hx, hB⟩
        rw [hear_of hp1 (by omega) hI.s0] at hB
        replace hS := hS.upd 0 rfl hx (fun c hc => by subst hc; exact List.mem_singleton.2 rfl) (blk_local _ _ _) hB (fun c hc => .inl hc)
        (conv => whnf)
        refine (role_epoch (hS.blk 0 rfl)).mono ?_
        rintro v w' ⟨rfl, rfl⟩
        (conv => whnf)
        refine (role_hear _ (hS.blk 1 rfl)).mono ?_
        rintro v w' ⟨rfl, hx, hB⟩
        rw [hear_of (by split <;> assumption) (by split <;> (try dsimp only) <;> omega) hI.s1] at hB
        replace hS := hS.upd 1 rfl hx (fun c hc => by subst hc; exact List.mem_singleton.2 rfl) (blk_local _ _ _) hB (fun c hc => .inl hc)
        (conv => whnf)
        refine (role_active (hS.blk 0 rfl)).mono ?_
        rintro v w' ⟨rfl, rfl⟩
        (conv => whnf)
        refine brN (fun h9 => ?_) (fun h9 => ?_)
        · repeat' ((conv => whnf); first | refine RetC.mk ?_ | refine NzC.mk (by decide) ?_ | refine RngC.mk (by omega) (by omega) ?_ | refine IdxC.mk (by omega) (by omega) ?_ | refine brD (fun _ => ?_) (fun _ => ?_) | refine brND (fun _ => ?_) (fun _ => ?_) | refine brN (fun _ => ?_) (fun _ => ?_) | refine brI (fun _ => ?_) (fun _ => ?_))
          exact ⟨rfl, hS.ext⟩
        · (conv => whnf)
          refine (role_active (hS.blk 1 rfl)).mono ?_
          rintro v w' ⟨rfl, rfl⟩
          repeat' ((conv => whnf); first | refine RetC.mk ?_ | refine NzC.mk (by decide) ?_ | refine RngC.mk (by omega) (by omega) ?_ | refine IdxC.mk (by omega) (by omega) ?_ | refine brD (fun _ => ?_) (fun _ => ?_) | refine brND (fun _ => ?_) (fun _ => ?_) | refine brN (fun _ => ?_) (fun _ => ?_) | refine brI (fun _ => ?_) (fun _ => ?_))
          refine ⟨?_, hS.ext⟩
          clear hS hB hE
          by_cases h10 : r1.epoch > r0.epoch
          · rw [if_pos h10] at h9
            cases h9
          · rw [if_neg h10, if_pos (by omega)]
            rfl
      · repeat' ((conv => whnf); first | refine RetC.mk ?_ | refine NzC.mk (by decide) ?_ | refine RngC.mk (by omega) (by omega) ?_ | refine IdxC.mk (by omega) (by omega) ?_ | refine brD (fun _ => ?_) (fun _ => ?_) | refine brND (fun _ => ?_) (fun _ => ?_) | refine brN (fun _ => ?_) (fun _ => ?_) | refine brI (fun _ => ?_) (fun _ => ?_))
        exact ⟨rfl, hS.ext⟩
    · repeat' ((conv => whnf); first | refine RetC.mk ?_ | refine NzC.mk (by decide) ?_ | refine RngC.mk (by omega) (by omega) ?_ | refine IdxC.mk (by omega) (by omega) ?_ | refine brD (fun _ => ?_) (fun _ => ?_) | refine brND (fun _ => ?_) (fun _ => ?_) | refine brN (fun _ => ?_) (fun _ => ?_) | refine brI (fun _ => ?_) (fun _ => ?_))
      exact ⟨rfl, hS.ext⟩

theorem roleApart_walk {E : Nat → Addr} (W : World) (args : List Value) (hE : Errs W E W.heap.size [2, 3, 11]) (ha : ArgsOk Tryd.prog W [22] args) :
    CallC Tryd.prog 5 args.toArray W fun v w' => v = .bool true ∧ Ext No W w' := by
  obtain ⟨v2, args, rfl, h2, ha⟩ := ha.cons
  obtain rfl := ha.nil
  obtain ⟨a0, n0, c0, xs, rfl, hx, _⟩ := arg_slice (d := 1) (sz := 1) Tryd.underlying22 (by kernel_rfl) (by decide) (dec_int (d := 0) Tryd.underlying3) h2
  exact roleApart_ok W hE a0 n0 c0 xs hx
end Go.Proofs.YtnpfaghfcbbmdaaDoor
