/-
  MirrorTurned returns true whatever its arguments.
-/
import Derived.Test.YtnpfaghfcbbmdaaDoorMirrored
namespace Go.Proofs.YtnpfaghfcbbmdaaDoor
open Go Ev

/-! ### The plain law: of cells of which no two of a slot have one version a mirror keeps, of each slot, the one with the highest version -/
structure Top (zs L : List CellS) : Prop where
  len : L.length = 32
  top : ∀ s : Nat, s < 32 → ∃ d, L[s]? = some d ∧ (∀ c ∈ zs, c.slot = s → c.ver ≤ d.ver) ∧ ((d = ⟨s, 0, noFlow⟩) ∨ (d ∈ zs ∧ d.slot = s ∧ 0 < d.ver))

theorem emptyCells_at {s : Nat} (h : s < 32) : emptyCells[s]? = some ⟨s, 0, noFlow⟩ := by simp [emptyCells, h]
theorem Top.nil : Top [] emptyCells := ⟨emptyCells_len, fun s hs => ⟨_, emptyCells_at hs, by simp, .inl rfl⟩⟩
theorem Top.bad {zs L : List CellS} (h : Top zs L) {c : CellS} (hb : badSlot c = true) : Top (zs ++ [c]) L := by
  refine ⟨h.len, fun s hs => ?_⟩
  obtain ⟨d, h1, h2, h3⟩ := h.top s hs
  refine ⟨d, h1, fun e he hes => ?_, h3.imp id fun ⟨h4, h5⟩ => ⟨List.mem_append_left _ h4, h5⟩⟩
  rcases List.mem_append.1 he with he | he
  · exact h2 e he hes
  · obtain rfl := List.mem_singleton.1 he
    simp [badSlot] at hb
    omega
theorem Top.put {zs L : List CellS} (h : Top zs L) {c : CellS} (hb : badSlot c = false) : Top (zs ++ [c]) (put1C L c) := by
  have hc : 0 ≤ c.slot ∧ c.slot < 32 := by simp [badSlot] at hb; omega
  refine ⟨by rw [put1C_len, h.len], fun s hs => ?_⟩
  obtain ⟨d, h1, h2, h3⟩ := h.top s hs
  have h3' : (d = ⟨s, 0, noFlow⟩) ∨ (d ∈ zs ++ [c] ∧ d.slot = s ∧ 0 < d.ver) := h3.imp id fun ⟨h4, h5⟩ => ⟨List.mem_append_left _ h4, h5⟩
  have hd0 : 0 ≤ d.ver := by rcases h3 with rfl | ⟨_, _, h⟩; exact Int.le_refl _; omega
  by_cases he : c.slot = s
  · have hs' : c.slot.toNat = s := by omega
    rw [put1C_at (by rw [hs']; exact h1)]
    have hle : ∀ (m : Int), d.ver ≤ m → c.ver ≤ m → ∀ e ∈ zs ++ [c], e.slot = s → e.ver ≤ m := by
      intro m hm1 hm2 e he' hes
      rcases List.mem_append.1 he' with he' | he'
      · have := h2 e he' hes; omega
      · obtain rfl := List.mem_singleton.1 he'; exact hm2
    split
    · rename_i hv
      refine ⟨c, ?_, hle _ (by omega) (Int.le_refl _), .inr ⟨by simp, he, by omega⟩⟩
      rw [hs', List.getElem?_set_self (by rw [h.len]; exact hs)]
    · rename_i hv
      exact ⟨d, h1, hle _ (Int.le_refl _) (by omega), h3'⟩
  · refine ⟨d, ?_, fun e he' hes => ?_, h3'⟩
    · unfold put1C
      split
      · split
        · rw [List.getElem?_set_ne (by omega)]; exact h1
        · exact h1
      · exact h1
    · rcases List.mem_append.1 he' with he' | he'
      · exact h2 e he' hes
      · obtain rfl := List.mem_singleton.1 he'; exact absurd hes he
theorem Top.same {xs zs L M : List CellS} (hu : ∀ c ∈ xs, ∀ d ∈ xs, c.slot = d.slot → c.ver = d.ver → c = d) (h : Top xs L) (k : Top zs M) (h1 : ∀ c ∈ xs, c ∈ zs) (h2 : ∀ c ∈ zs, c ∈ xs) : L = M := by
  apply List.ext_getElem?
  intro s
  by_cases hs : s < 32
  · obtain ⟨d, e1, e2, e3⟩ := h.top s hs
    obtain ⟨f, g1, g2, g3⟩ := k.top s hs
    rw [e1, g1]
    congr 1
    rcases e3 with rfl | ⟨e3, e4, e5⟩
    · rcases g3 with rfl | ⟨g3, g4, g5⟩
      · rfl
      · have := e2 f (h2 f g3) g4
        simp only at this
        omega
    · rcases g3 with rfl | ⟨g3, g4, g5⟩
      · have := g2 d (h1 d e3) e4
        simp only at this
        omega
      · have a := g2 d (h1 d e3) e4
        have b := e2 f (h2 f g3) g4
        exact hu d e3 f (h2 f g3) (e4.trans g4.symm) (by omega)
  · rw [List.getElem?_eq_none (by rw [h.len]; omega), List.getElem?_eq_none (by rw [k.len]; omega)]

/-- A mirror that was told cells 'zs', one by one, of life 7. -/
structure Told7 (zs : List CellS) (m : MirS) : Prop where
  life : m.life = 7 ∨ (m.life = 0 ∧ m.cells = emptyCells)
  top : Top zs m.cells
theorem Told7.nil : Told7 [] ⟨0, emptyCells⟩ := ⟨.inr ⟨rfl, rfl⟩, Top.nil⟩
theorem Told7.tell {zs : List CellS} {m : MirS} (h : Told7 zs m) (c : CellS) : Told7 (zs ++ [c]) (m.tell 7 [c]).2 := by
  unfold MirS.tell
  cases hb : badSlot c
  · rw [if_neg (by simp [hb]), if_neg (by rcases h.life with h | h <;> omega)]
    rcases h.life with hl | ⟨hl, hc⟩
    · refine ⟨.inl ?_, ?_⟩
      · simp [hl]
      · simp only [hl, Int.lt_irrefl, gt_iff_lt, if_false, List.foldl_cons, List.foldl_nil]
        exact h.top.put hb
    · refine ⟨.inl ?_, ?_⟩
      · simp [hl]
      · have := h.top.put hb
        rw [hc] at this
        simpa [hl] using this
  · rw [if_pos (by simp [hb])]
    exact ⟨h.life, h.top.bad hb⟩

/-! ### The walk -/
theorem mirrorTurned_ok {E : Nat → Addr} (W : World) (hE : Errs W E W.heap.size [2, 10]) (a0 a1 : Option Addr) (n0 n1 c0 c1 : Nat) (xs : List CellS) (os : List Int) (hx : Slc W 10 encCell CellS.Ok a0 n0 xs) (ho : Slc W 1 encI I64 a1 n1 os) :
    CallC Tryd.prog 8 #[.slice a0 n0 c0, .slice a1 n1 c1] W fun v w' => v = .bool true ∧ Ext No W w' := by
  have hm0 := hx.max
  have hm1 := ho.max
  have hl0 := hx.len
  refine fn_intro tabOk Tryd.func8 (by kernel_rfl) rfl Tryd.ntmps8 (Nat.le_of_ble_eq_true rfl) ?_
  have hS := St.start W No
  (conv => whnf)
  refine (mirrored_ok W hE (Nat.le_refl _)).mono ?_
  rintro v w' ⟨rfl, hx'⟩
  replace hS := hS.no hx'
  clear hx'
  (conv => whnf)
  refine brD (fun h1 => ?_) (fun h1 => ?_)
  · repeat' ((conv => whnf); first | refine RetC.mk ?_ | refine NzC.mk (by decide) ?_ | refine RngC.mk (by omega) (by omega) ?_ | refine IdxC.mk (by omega) (by omega) ?_ | refine brD (fun _ => ?_) (fun _ => ?_) | refine brND (fun _ => ?_) (fun _ => ?_) | refine brN (fun _ => ?_) (fun _ => ?_) | refine brI (fun _ => ?_) (fun _ => ?_))
    exact ⟨rfl, hS.ext⟩
  (conv => whnf)
  refine brD (fun h2 => ?_) (fun h2 => ?_)
  · repeat' ((conv => whnf); first | refine RetC.mk ?_ | refine NzC.mk (by decide) ?_ | refine RngC.mk (by omega) (by omega) ?_ | refine IdxC.mk (by omega) (by omega) ?_ | refine brD (fun _ => ?_) (fun _ => ?_) | refine brND (fun _ => ?_) (fun _ => ?_) | refine brN (fun _ => ?_) (fun _ => ?_) | refine brI (fun _ => ?_) (fun _ => ?_))
    exact ⟨rfl, hS.ext⟩
  (conv => whnf)
  refine loopR tabOk (fun σ w q => ∃ i : Nat, σ = [(6, .int .i64 i), (1, .slice a1 n1 c1), (0, .slice a0 n0 c0)] ∧ q = n0 - i ∧ i ≤ n0 ∧ St W No w [] ∧ ∀ p q c d, q < p → p < i → xs[p]? = some c → xs[q]? = some d → ¬ (c.slot = d.slot ∧ c.ver = d.ver))
    (σ' := [(6, .int .i64 ((0 : Nat) : Int)), (1, .slice a1 n1 c1), (0, .slice a0 n0 c0)]) (n := n0) ⟨rfl, rfl, rfl, trivial⟩ ⟨0, rfl, rfl, Nat.zero_le _, hS, fun p q c d _ h => by omega⟩ ?_
  clear hS
  rintro _ w q ⟨i, rfl, rfl, hi, hS, hu⟩
  (conv => whnf)
  refine brD (fun h3 => ?_) (fun h3 => ?_)
  · have hin : i < n0 := by omega
    obtain ⟨b0, o0, x, hxi, _, rfl, _, hcx⟩ := hx.at hin
    (conv => whnf)
    refine loopR tabOk (fun σ w q => ∃ k : Nat, σ = [(7, .int .i64 k), (6, .int .i64 i), (1, .slice a1 n1 c1), (0, .slice (some ⟨b0, o0, none⟩) n0 c0)] ∧ q = i - k ∧ k ≤ i ∧ St W No w [] ∧ ∀ q d, q < k → xs[q]? = some d → ¬ (x.slot = d.slot ∧ x.ver = d.ver))
      (σ' := [(7, .int .i64 ((0 : Nat) : Int)), (6, .int .i64 i), (1, .slice a1 n1 c1), (0, .slice (some ⟨b0, o0, none⟩) n0 c0)]) (n := i) ⟨rfl, rfl, rfl, rfl, trivial⟩ ⟨0, rfl, rfl, Nat.zero_le _, hS, fun q d h => by omega⟩ ?_
    clear hS
    rintro _ w q ⟨k, rfl, rfl, hk, hS, hv⟩
    (conv => whnf)
    refine brD (fun h4 => ?_) (fun h4 => ?_)
    · have hkn : k < n0 := by omega
      obtain ⟨b1, o1, y, hyk, _, hb1, _, hcy⟩ := hx.at hkn
      cases hb1
      repeat' ((conv => whnf); first | refine RetC.mk ?_ | refine NzC.mk (by decide) ?_ | refine RngC.mk (by omega) (by omega) ?_ | refine IdxC.mk (by omega) (by omega) ?_ | (refine drawS tabOk mixed [] No [0, 1, 2, 3, 4, 5, 6, 7, 8, 9, 10, 11, 12, 13, 14, 15, 16, 17, 18, 19, 20, 21, 22, 23] (by kernel_rfl) ?_; rintro w1 rfl; replace hS := hS.drew) | refine hS.ldrF (hcx.one 0 rfl) id id ?_ | refine hS.ldrF (hcy.one 0 rfl) id id ?_ | refine hS.ldrF (hcx.one 1 rfl) id id ?_ | refine hS.ldrF (hcy.one 1 rfl) id id ?_ | refine brD (fun _ => ?_) (fun _ => ?_) | refine brND (fun _ => ?_) (fun _ => ?_) | refine brN (fun _ => ?_) (fun _ => ?_) | refine brI (fun _ => ?_) (fun _ => ?_))
      · exact ⟨rfl, hS.ext⟩
      · rename_i h5 h6
        refine LoopE.mk ⟨_, [(7, .int .i64 ((k + 1 : Nat) : Int)), (6, _), (1, _), (0, _)], ?_, ⟨rfl, rfl, rfl, rfl, trivial⟩, ⟨k + 1, rfl, rfl, by omega, hS, ?_⟩⟩
        · omega
        · intro q d hq hd
          rcases Nat.lt_or_eq_of_le (Nat.le_of_lt_succ hq) with hq | rfl
          · exact hv q d hq hd
          · rw [hyk] at hd
            cases hd
            exact fun h => h6 h.2
      · rename_i h5
        refine LoopE.mk ⟨_, [(7, .int .i64 ((k + 1 : Nat) : Int)), (6, _), (1, _), (0, _)], ?_, ⟨rfl, rfl, rfl, rfl, trivial⟩, ⟨k + 1, rfl, rfl, by omega, hS, ?_⟩⟩
        · omega
        · intro q d hq hd
          rcases Nat.lt_or_eq_of_le (Nat.le_of_lt_succ hq) with hq | rfl
          · exact hv q d hq hd
          · rw [hyk] at hd
            cases hd
            exact fun h => h5 h.1
    · obtain rfl : k = i := by omega
      (conv => whnf)
      refine RngC.mk (by omega) (by omega) ?_
      (conv => whnf)
      refine LoopE.mk ⟨_, [(6, .int .i64 ((k + 1 : Nat) : Int)), (1, _), (0, _)], ?_, ⟨rfl, rfl, rfl, trivial⟩, ⟨k + 1, rfl, rfl, by omega, hS, ?_⟩⟩
      · omega
      · intro p q c d hq hp hc hd
        rcases Nat.lt_or_eq_of_le (Nat.le_of_lt_succ hp) with hp | rfl
        · exact hu p q c d hq hp hc hd
        · rw [hxi] at hc
          cases hc
          exact hv q d hq hd
  obtain rfl : i = n0 := by omega
  have huniq : ∀ c ∈ xs, ∀ d ∈ xs, c.slot = d.slot → c.ver = d.ver → c = d := by
    intro c hc d hd h1 h2
    obtain ⟨p, hp⟩ := List.mem_iff_getElem?.1 hc
    obtain ⟨q, hq⟩ := List.mem_iff_getElem?.1 hd
    have lp := (List.getElem?_eq_some_iff.1 hp).1
    have lq := (List.getElem?_eq_some_iff.1 hq).1
    rcases Nat.lt_trichotomy p q with h | rfl | h
    · exact absurd ⟨h1.symm, h2.symm⟩ (hu q p d c h (by omega) hq hp)
    · rw [hp] at hq; exact Option.some.inj hq
    · exact absurd ⟨h1, h2⟩ (hu p q c d h (by omega) hp hq)
  clear hu h3
  (conv => whnf)
  refine (new_ok _).mono ?_
  rintro v w' ⟨ba, rfl, hb, hx', hB⟩
  replace hS := hS.made hx' (blk_local _ _ _) hB (by simp [blk]; exact ⟨hb, hB.lt⟩)
  clear hx' hB hb
  (conv => whnf)
  refine (new_ok _).mono ?_
  rintro v w' ⟨bb, rfl, hb, hx', hB⟩
  replace hS := hS.made hx' (blk_local _ _ _) hB (by simp [blk]; exact ⟨hb, hB.lt⟩)
  clear hx' hB hb
  have fa := hS.fresh 0 rfl
  have fb := hS.fresh 1 rfl
  (conv => whnf)
  refine loopR tabOk (fun σ w q => ∃ (k : Nat) (ma : MirS), σ = [(10, .int .i64 k), (9, .pointer (some ⟨bb, 0, none⟩)), (8, .pointer (some ⟨ba, 0, none⟩)), (1, .slice a1 n1 c1), (0, .slice a0 i c0)] ∧ q = i - k ∧ k ≤ i ∧ St W No w [blk ba 99 (encM ma), blk bb 99 (encM ⟨0, emptyCells⟩)] ∧ Told7 (xs.take k) ma)
    (σ' := [(10, .int .i64 ((0 : Nat) : Int)), (9, .pointer (some ⟨bb, 0, none⟩)), (8, .pointer (some ⟨ba, 0, none⟩)), (1, .slice a1 n1 c1), (0, .slice a0 i c0)]) (n := i) ⟨rfl, rfl, rfl, rfl, rfl, trivial⟩ ⟨0, ⟨0, emptyCells⟩, rfl, rfl, Nat.zero_le _, hS, Told7.nil⟩ ?_
  clear hS
  rintro _ w q ⟨k, ma, rfl, rfl, hk, hS, hT⟩
  (conv => whnf)
  refine brD (fun h3 => ?_) (fun h3 => ?_)
  · have hkn : k < i := by omega
    obtain ⟨b0, o0, x, hxk, _, rfl, _, hcx⟩ := hx.at hkn
    (conv => whnf)
    refine IdxC.mk (by omega) (by omega) ?_
    (conv => whnf)
    refine hS.lar (l := encCell x) rfl hcx id ?_
    (conv => whnf)
    refine hS.lit (cs := encCell x) Tryd.underlying53 (sz := 10) (by kernel_rfl) (z := .agg (encCell ⟨0, 0, noFlow⟩).toArray) (by kernel_rfl) rfl rfl (by rfl) (fun bl w' hbl hS => ?_)
    (conv => whnf)
    refine (tell_ok (xs := [x]) (G := fun _ => True) 7 (hS.blk 0 rfl) hT.top.len ((hE.ext hS.ext fun _ h => h.elim)) fa (Slc.of_blk codCell (hS.blk 2 rfl) rfl (by simp) (fun _ _ => trivial) rfl) (by rintro b0 o0 h; cases h; exact hS.ne 2 0 rfl rfl (by decide))).mono ?_
    rintro v w' ⟨rfl, hx', hB⟩
    replace hS := hS.upd 0 rfl hx' (fun c hc => by subst hc; exact List.mem_singleton.2 rfl) (blk_local _ _ _) hB (fun c hc => .inl hc)
    replace hS := hS.keep 2
    (conv => whnf)
    refine RngC.mk (by omega) (by omega) ?_
    (conv => whnf)
    refine LoopE.mk ⟨_, [(10, .int .i64 ((k + 1 : Nat) : Int)), (9, _), (8, _), (1, _), (0, _)], ?_, ⟨rfl, rfl, rfl, rfl, rfl, trivial⟩, ⟨k + 1, _, rfl, rfl, by omega, hS, ?_⟩⟩
    · omega
    · rw [List.take_add_one, hxk]
      exact hT.tell x
  obtain rfl : k = i := by omega
  rw [List.take_of_length_le (by omega)] at hT
  clear h3
  (conv => whnf)
  refine loopR tabOk (fun σ w q => ∃ (j : Nat) (mb : MirS) (zs : List CellS), σ = [(11, .int .i64 j), (9, .pointer (some ⟨bb, 0, none⟩)), (8, .pointer (some ⟨ba, 0, none⟩)), (1, .slice a1 n1 c1), (0, .slice a0 k c0)] ∧ q = n1 + k - j ∧ j ≤ n1 + k ∧ St W No w [blk ba 99 (encM ma), blk bb 99 (encM mb)] ∧ Told7 zs mb ∧
      (∀ c ∈ zs, c ∈ xs) ∧ (∀ p c, xs[p]? = some c → n1 + k ≤ j + p → c ∈ zs))
    (σ' := [(11, .int .i64 ((0 : Nat) : Int)), (9, .pointer (some ⟨bb, 0, none⟩)), (8, .pointer (some ⟨ba, 0, none⟩)), (1, .slice a1 n1 c1), (0, .slice a0 k c0)]) (n := n1 + k) ⟨rfl, rfl, rfl, rfl, rfl, trivial⟩
    ⟨0, ⟨0, emptyCells⟩, [], rfl, rfl, Nat.zero_le _, hS, Told7.nil, by simp, fun p c hp h => by have := (List.getElem?_eq_some_iff.1 hp).1; omega⟩ ?_
  clear hS
  rintro _ w q ⟨j, mb, zs, rfl, rfl, hj, hS, hZ, hz1, hz2⟩
  (conv => whnf)
  refine RngC.mk (by omega) (by omega) ?_
  (conv => whnf)
  refine brD (fun h3 => ?_) (fun h3 => ?_)
  · (conv => whnf)
    refine RngC.mk (by omega) (by omega) ?_
    (conv => whnf)
    refine RngC.mk (by omega) (by omega) ?_
    (conv => whnf)
    refine RngC.mk (by omega) (by omega) ?_
    (conv => whnf)
    refine brD (fun h4 => ?_) (fun h4 => ?_)
    · have hjn : j < n1 := by omega
      obtain ⟨b1, o1, y, _, hy, rfl, _, hco⟩ := ho.at hjn
      (conv => whnf)
      refine IdxC.mk (by omega) (by omega) ?_
      (conv => whnf)
      refine hS.ldr (hco.one 0 rfl) id ?_
      (conv => whnf)
      refine brD (fun h5 => ?_) (fun h5 => ?_)
      · (conv => whnf)
        refine brD (fun h6 => ?_) (fun h6 => ?_)
        ·
          have hkn : (y).toNat < k := by omega
          obtain ⟨b0, o0, x, hxk, _, hb0, _, hcx⟩ := hx.at hkn
          subst hb0
          (conv => whnf)
          refine IdxC.mk (by omega) (by omega) ?_
          (conv => whnf)
          refine hS.lar (l := encCell x) rfl hcx id ?_
          (conv => whnf)
          refine hS.lit (cs := encCell x) Tryd.underlying53 (sz := 10) (by kernel_rfl) (z := .agg (encCell ⟨0, 0, noFlow⟩).toArray) (by kernel_rfl) rfl rfl (by rfl) (fun bl w' hbl hS => ?_)
          (conv => whnf)
          refine (tell_ok (xs := [x]) (G := fun _ => True) 7 (hS.blk 1 rfl) hZ.top.len ((hE.ext hS.ext fun _ h => h.elim)) fb (Slc.of_blk codCell (hS.blk 2 rfl) rfl (by simp) (fun _ _ => trivial) rfl) (by rintro b0 o0 h; cases h; exact hS.ne 2 1 rfl rfl (by decide))).mono ?_
          rintro v w' ⟨rfl, hx', hB⟩
          replace hS := hS.upd 1 rfl hx' (fun c hc => by subst hc; exact List.mem_singleton.2 rfl) (blk_local _ _ _) hB (fun c hc => .inl hc)
          replace hS := hS.keep 2
          (conv => whnf)
          refine RngC.mk (by omega) (by omega) ?_
          (conv => whnf)
          refine LoopE.mk ⟨_, [(11, .int .i64 ((j + 1 : Nat) : Int)), (9, _), (8, _), (1, _), (0, _)], by omega, ⟨rfl, rfl, rfl, rfl, rfl, trivial⟩, ⟨j + 1, _, zs ++ [x], rfl, rfl, by omega, hS, hZ.tell x, ?_, ?_⟩⟩
          · intro c hc
            rcases List.mem_append.1 hc with hc | hc
            · exact hz1 c hc
            · obtain rfl := List.mem_singleton.1 hc
              exact List.mem_of_getElem? hxk
          · intro p c hp hle
            have lp := (List.getElem?_eq_some_iff.1 hp).1
            by_cases h : n1 + k ≤ j + p
            · exact List.mem_append_left _ (hz2 p c hp h)
            · first
              | (exfalso; omega)
              | (have : p = (y).toNat := by omega
                 subst this
                 rw [hxk] at hp
                 cases hp
                 simp)
        ·
          (conv => whnf)
          refine RngC.mk (by omega) (by omega) ?_
          (conv => whnf)
          refine LoopE.mk ⟨_, [(11, .int .i64 ((j + 1 : Nat) : Int)), (9, _), (8, _), (1, _), (0, _)], by omega, ⟨rfl, rfl, rfl, rfl, rfl, trivial⟩, ⟨j + 1, mb, zs, rfl, rfl, by omega, hS, hZ, hz1, fun p c hp hle => hz2 p c hp (by have := (List.getElem?_eq_some_iff.1 hp).1; omega)⟩⟩
      ·
        (conv => whnf)
        refine RngC.mk (by omega) (by omega) ?_
        (conv => whnf)
        refine LoopE.mk ⟨_, [(11, .int .i64 ((j + 1 : Nat) : Int)), (9, _), (8, _), (1, _), (0, _)], by omega, ⟨rfl, rfl, rfl, rfl, rfl, trivial⟩, ⟨j + 1, mb, zs, rfl, rfl, by omega, hS, hZ, hz1, fun p c hp hle => hz2 p c hp (by have := (List.getElem?_eq_some_iff.1 hp).1; omega)⟩⟩
    · (conv => whnf)
      refine brD (fun h5 => ?_) (fun h5 => ?_)
      · (conv => whnf)
        refine brD (fun h6 => ?_) (fun h6 => ?_)
        ·
          have hkn : (((n1 : Int) + (k : Int) - 1 - (j : Int))).toNat < k := by omega
          obtain ⟨b0, o0, x, hxk, _, hb0, _, hcx⟩ := hx.at hkn
          subst hb0
          (conv => whnf)
          refine IdxC.mk (by omega) (by omega) ?_
          (conv => whnf)
          refine hS.lar (l := encCell x) rfl hcx id ?_
          (conv => whnf)
          refine hS.lit (cs := encCell x) Tryd.underlying53 (sz := 10) (by kernel_rfl) (z := .agg (encCell ⟨0, 0, noFlow⟩).toArray) (by kernel_rfl) rfl rfl (by rfl) (fun bl w' hbl hS => ?_)
          (conv => whnf)
          refine (tell_ok (xs := [x]) (G := fun _ => True) 7 (hS.blk 1 rfl) hZ.top.len ((hE.ext hS.ext fun _ h => h.elim)) fb (Slc.of_blk codCell (hS.blk 2 rfl) rfl (by simp) (fun _ _ => trivial) rfl) (by rintro b0 o0 h; cases h; exact hS.ne 2 1 rfl rfl (by decide))).mono ?_
          rintro v w' ⟨rfl, hx', hB⟩
          replace hS := hS.upd 1 rfl hx' (fun c hc => by subst hc; exact List.mem_singleton.2 rfl) (blk_local _ _ _) hB (fun c hc => .inl hc)
          replace hS := hS.keep 2
          (conv => whnf)
          refine RngC.mk (by omega) (by omega) ?_
          (conv => whnf)
          refine LoopE.mk ⟨_, [(11, .int .i64 ((j + 1 : Nat) : Int)), (9, _), (8, _), (1, _), (0, _)], by omega, ⟨rfl, rfl, rfl, rfl, rfl, trivial⟩, ⟨j + 1, _, zs ++ [x], rfl, rfl, by omega, hS, hZ.tell x, ?_, ?_⟩⟩
          · intro c hc
            rcases List.mem_append.1 hc with hc | hc
            · exact hz1 c hc
            · obtain rfl := List.mem_singleton.1 hc
              exact List.mem_of_getElem? hxk
          · intro p c hp hle
            have lp := (List.getElem?_eq_some_iff.1 hp).1
            by_cases h : n1 + k ≤ j + p
            · exact List.mem_append_left _ (hz2 p c hp h)
            · first
              | (exfalso; omega)
              | (have : p = (((n1 : Int) + (k : Int) - 1 - (j : Int))).toNat := by omega
                 subst this
                 rw [hxk] at hp
                 cases hp
                 simp)
        · exfalso; omega
      · exfalso; omega
  · obtain rfl : j = n1 + k := by omega
    have hsame : ma.cells = mb.cells := hT.top.same huniq hZ.top (fun c hc => by
      obtain ⟨p, hp⟩ := List.mem_iff_getElem?.1 hc
      exact hz2 p c hp (by omega)) hz1
    (conv => whnf)
    refine (cells_ok (hS.blk 0 rfl) hT.top.len).mono ?_
    rintro v w' ⟨a2, c2, rfl, hx', hO, hF⟩
    replace hS := hS.madeL hx' hO hF
    (conv => whnf)
    refine (cells_ok (hS.blk 1 rfl) hZ.top.len).mono ?_
    rintro v w' ⟨a3, c3, rfl, hx', hO, hF⟩
    replace hS := hS.madeL hx' hO hF
    (conv => whnf)
    refine (sameCells_ok (G := fun _ => True) (ownL_slc codCell (hS.get 2 rfl) fun _ _ => trivial) (ownL_slc codCell (hS.get 3 rfl) fun _ _ => trivial)).mono ?_
    rw [decide_eq_true hsame]
    rintro v w' ⟨rfl, hx'⟩
    replace hS := hS.no hx'
    (conv => whnf)
    refine (cells_ok (hS.blk 0 rfl) hT.top.len).mono ?_
    rintro v w' ⟨a4, c4, rfl, hx', hO, hF⟩
    replace hS := hS.madeL hx' hO hF
    (conv => whnf)
    refine (cells_ok (hS.blk 1 rfl) hZ.top.len).mono ?_
    rintro v w' ⟨a5, c5, rfl, hx', hO, hF⟩
    replace hS := hS.madeL hx' hO hF
    (conv => whnf)
    refine (same_ok (G := fun _ => True) (ownL_slc codCell (hS.get 4 rfl) fun _ _ => trivial) (ownL_slc codCell (hS.get 5 rfl) fun _ _ => trivial)).mono ?_
    rw [decide_eq_true hsame]
    rintro v w' ⟨rfl, hx'⟩
    replace hS := hS.no hx'
    repeat' ((conv => whnf); first | refine RetC.mk ?_ | refine NzC.mk (by decide) ?_ | refine RngC.mk (by omega) (by omega) ?_ | refine IdxC.mk (by omega) (by omega) ?_ | refine brD (fun _ => ?_) (fun _ => ?_) | refine brND (fun _ => ?_) (fun _ => ?_) | refine brN (fun _ => ?_) (fun _ => ?_) | refine brI (fun _ => ?_) (fun _ => ?_))
    exact ⟨rfl, hS.ext⟩

theorem mirrorTurned_walk {E : Nat → Addr} (W : World) (args : List Value) (hE : Errs W E W.heap.size [2, 10]) (ha : ArgsOk Tryd.prog W [53, 22] args) :
    CallC Tryd.prog 8 args.toArray W fun v w' => v = .bool true ∧ Ext No W w' := by
  obtain ⟨v0, args, rfl, h0, ha⟩ := ha.cons
  obtain ⟨v1, args, rfl, h1, ha⟩ := ha.cons
  obtain rfl := ha.nil
  obtain ⟨d, hd⟩ : ∃ d, 10 ≤ d := ⟨10, Nat.le_refl _⟩
  obtain ⟨a0, n0, c0, xs, rfl, hx, _⟩ := arg_slice (d := d) (sz := 10) Tryd.underlying53 (by kernel_rfl) (by decide) (dec_cell hd) h0
  obtain ⟨a1, n1, c1, ys, rfl, hy, _⟩ := arg_slice (d := 1) (sz := 1) Tryd.underlying22 (by kernel_rfl) (by decide) (dec_int (d := 0) Tryd.underlying3) h1
  exact mirrorTurned_ok W hE a0 a1 n0 n1 c0 c1 xs ys hx hy
end Go.Proofs.YtnpfaghfcbbmdaaDoor
