
/-
  The reference's teller, walked: Next.
-/
import Derived.Test.YteakdmngllfodaaDoorRefTeller
import Derived.Test.YteakdmngllfodaaDoorTellL
namespace Go.Proofs.YteakdmngllfodaaDoor
open Go Ev

abbrev encBo (x : Bool) : List Value := [.bool x]
theorem codBo : Codec 1 encBo := ⟨fun _ => rfl, fun _ => rfl, by decide⟩
def takL (p : List Nat) : List Bool := (List.range 32).map fun k => decide (k ∈ p)
theorem takL_len (p : List Nat) : (takL p).length = 32 := by simp [takL]
theorem takL_at {p : List Nat} {k : Nat} (h : k < 32) : (takL p)[k]? = some (decide (k ∈ p)) := by simp [takL, h]
theorem takL_set {p : List Nat} {k : Nat} (h : k < 32) : (takL p).set k true = takL (p ++ [k]) := by
  apply List.ext_getElem?
  intro i
  rw [List.getElem?_set]
  by_cases e : k = i
  · subst e
    rw [if_pos rfl, if_pos (by rw [takL_len]; exact h), takL_at h]
    simp
  · rw [if_neg e]
    by_cases hi : i < 32
    · rw [takL_at hi, takL_at hi]
      have : ¬ i = k := fun x => e x.symm
      simp [this]
    · rw [List.getElem?_eq_none (by rw [takL_len]; omega), List.getElem?_eq_none (by rw [takL_len]; omega)]
theorem pick1_full {l : List CellS} {t : List Int} {k : Nat} (h : (pick1 l t k).length = 8) : ∀ d, pick1 l t (k + d) = pick1 l t k
  | 0 => rfl
  | d + 1 => by
    have ih := pick1_full h d
    rw [← Nat.add_assoc, pick1_succ, ih, if_neg (by omega)]

theorem out_at {n : Nat} {T : MirS} (hO : TOk n T) {p : List Nat} (hp : ∀ x ∈ p, x < 32) {i : Nat} (hi : i < p.length) : ∃ k, p[i]? = some k ∧ ∀ c, (outC T.cells p)[i]? = some c → c.slot = k ∧ verAt T.cells k = c.ver := by
  obtain ⟨k, hk⟩ : ∃ k, p[i]? = some k := ⟨_, List.getElem?_eq_getElem hi⟩
  refine ⟨k, hk, fun c h => ?_⟩
  have hlt := hp k (List.mem_of_getElem? hk)
  unfold outC at h
  rw [List.getElem?_map, hk] at h
  obtain rfl := Option.some.inj h
  obtain ⟨d, hd⟩ : ∃ d, T.cells[k]? = some d := ⟨_, List.getElem?_eq_getElem (by rw [hO.len]; exact hlt)⟩
  rw [cellAt_of hd, verAt_of hd]
  exact ⟨hO.slot k d hd, rfl⟩
theorem Ev.St.setL {α : Type} {sz : Nat} {enc : α → List Value} {w0 w : World} {S : Nat → Prop} {H : List Ent} (h : St w0 S w H) (C : Codec sz enc) (i : Nat) {e : TypeId} {b n c o k : Nat} {xs : List α} {d x : α} {vs : List Value} {K : World → Prop} (hi : H[i]? = some (ownL e sz enc (.slice (some ⟨b, 0, none⟩) n c) xs)) (hd : xs[k]? = some d) (ho : o = k * sz) (hv : vs = enc x)
    (hk : ∀ w', Ext (· = b) w w' → St w0 S w' (H.set i (ownL e sz enc (.slice (some ⟨b, 0, none⟩) n c) (xs.set k x))) → K w') : StC w b o vs K := by
  subst ho
  subst hv
  have hlt := (List.getElem?_eq_some_iff.1 hd).1
  have hle : k * sz + sz ≤ xs.length * sz := by rw [← Nat.succ_mul]; exact Nat.mul_le_mul_right _ hlt
  refine h.ownX i hi (by rw [flat_len C, C.len]; exact hle) (C.one x) (fun w' hx hS => hk w' hx ?_)
  have e := flat_over C (k := k) (j := 0) (y := x) (vs := enc x) hd (by rw [C.len]; omega) (over_whole (by rw [C.len, C.len]))
  rw [Nat.add_zero] at e
  rw [e] at hS
  unfold ownL
  rw [List.length_set]
  exact hS

section
variable {w : World} {bt g c bl gl cl : Nat} {T : MirS} {X : TelS}
/-- What a round has in hand. -/
def refH (bt bl gl cl bk ck : Nat) (X : TelS) (ov : Value) (l : List CellS) (p : List Nat) : List Ent :=
  [blk bl 105 [.pointer (some ⟨bt, 0, none⟩), .slice (some ⟨gl, 0, none⟩) 32 cl, .int .i64 (X.cursor : Int)], ownL 3 1 encI (.slice (some ⟨gl, 0, none⟩) 32 cl) X.told, ownL 55 10 encCell ov (outC l p), ownL 4 1 encBo (.slice (some ⟨bk, 0, none⟩) 32 ck) (takL p)]
theorem rlNext_ok (hT : (refT bt g c T).holds w) (hL : (refL bt bl gl cl X).holds w) (hap : ∀ b ∈ [bt, g], ¬ (b = bl ∨ b = gl)) {n : Nat} (hO : TOk n T) (ht : X.told.length = 32) (hc : X.cursor < 32) :
    CallC Tryd.prog 22 #[.pointer (some ⟨bl, 0, none⟩)] w fun v w' => (∃ a' c', v = .slice a' (X.picks T.cells).length c') ∧ Ext (fun b => b = bl ∨ b = gl) w w' ∧ (refL bt bl gl cl (X.next T.cells)).holds w' ∧ (ownL 55 10 encCell v (outC T.cells (X.picks T.cells))).holds w' ∧ Fresh w w' v := by
  have hl := hO.len
  have htb : ¬ (bt = bl ∨ bt = gl) := hap bt (by simp)
  have htg : ¬ (g = bl ∨ g = gl) := hap g (by simp)
  have hbl := hL.2.1.lt
  have hgl : gl < w.heap.size := ownB_lt hL.2.2 rfl
  obtain ⟨hL1, hL2, hL3⟩ := hL
  obtain ⟨z2, hz2⟩ : ∃ z2, stage2 32 X.cursor (pick1 T.cells X.told 32) = z2 := ⟨_, rfl⟩
  have hpk : X.picks T.cells = z2.2 := congrArg Prod.snd hz2
  have hnx : X.next T.cells = ⟨tellAll T.cells X.told (X.picks T.cells), z2.1⟩ := by rw [← hz2]; rfl
  refine fn_intro tabOk Tryd.func22 (by kernel_rfl) rfl Tryd.ntmps22 (Nat.le_of_ble_eq_true rfl) ?_
  have hS := (St.start w (fun b => b = bl ∨ b = gl)).add (blk_local bl _ _) hL2 (by simp [blk]; exact hbl) (by simp)
  have hS := hS.add ownL_local hL3 (by simp [ownL, own, Value.ownBlock]; exact hgl) (by simp [ownL, own, Value.ownBlock, blk]; exact fun e => hL1 e)
  have hS := hS.add (ownL_local (e := 55) (enc := encCell) (sz := 10) (v := .slice none 0 0) (xs := [])) (own_nil _ _ _) (by simp [ownL, own, Value.ownBlock]) (by simp [ownL, own, Value.ownBlock])
  (conv => whnf)
  refine hS.mkSlice (n := 32) Tryd.underlying112 (sz := 1) (bytes := 1) (by kernel_rfl) (z := .bool false) (by kernel_rfl) (by decide) (by decide) (by decide) (enc := encBo) (xs := takL []) (by simp [takL]) (by kernel_rfl) (fun bk w' hbk hS => ?_)
  replace hS : St w (fun b => b = bl ∨ b = gl) w' (refH bt bl gl cl bk 32 X (.slice none 0 0) T.cells (pick1 T.cells X.told 0)) := hS
  (conv => whnf)
  refine loopR tabOk (fun σ w' q => ∃ (i : Nat) (ov : Value), σ = [(5, .int .i64 i), (4, .slice (some ⟨bk, 0, none⟩) 32 32), (3, ov), (0, .pointer (some ⟨bl, 0, none⟩))] ∧ q = 32 - i ∧ i ≤ 32 ∧ (∃ a' c', ov = .slice a' (pick1 T.cells X.told i).length c') ∧ St w (fun b => b = bl ∨ b = gl) w' (refH bt bl gl cl bk 32 X ov T.cells (pick1 T.cells X.told i)))
    (σ' := [(5, .int .i64 ((0 : Nat) : Int)), (4, .slice (some ⟨bk, 0, none⟩) 32 32), (3, .slice none 0 0), (0, .pointer (some ⟨bl, 0, none⟩))]) (n := 32) ⟨rfl, rfl, rfl, rfl, trivial⟩ ⟨0, _, rfl, rfl, Nat.zero_le _, ⟨none, 0, rfl⟩, hS⟩ ?_
  clear hS
  rintro _ w1 q ⟨k, _, rfl, rfl, hk, ⟨a', c', rfl⟩, hS⟩
  have hp8 := pick1_len T.cells X.told k
  have hps := pick1_succ T.cells X.told k
  unfold refH at hS
  (conv => whnf)
  refine brD (fun h3 => ?_) (fun h3 => ?_)
  · have hk : k < 32 := by omega
    (conv => whnf)
    refine brD (fun h4 => ?_) (fun h4 => ?_)
    · obtain ⟨x, hx⟩ : ∃ x, T.cells[k]? = some x := ⟨_, List.getElem?_eq_getElem (by omega)⟩
      obtain ⟨u, hu⟩ : ∃ u, X.told[k]? = some u := ⟨_, List.getElem?_eq_getElem (by omega)⟩
      have hcell := cellAt_of hx
      have hlb : lagB T.cells X.told k = decide (x.ver ≠ u) := by unfold lagB; rw [verAt_of hx, toldAt_of hu]
      have hcv : w.cell? ⟨g, 0 + Int.toNat (k : Int) * 10 + 1, none⟩ = some (.int .i64 x.ver) := by rw [Nat.zero_add]; exact (refT_at hT hx).one 1 rfl
      have hcx : CellsAt w g (0 + Int.toNat (k : Int) * 10) (encCell x) := by rw [Nat.zero_add]; exact refT_at hT hx
      generalize pick1 T.cells X.told k = p at hS hp8 hps h4
      (conv => whnf)
      (refine drawS tabOk mixed [] No [0, 1, 2, 3, 4, 5, 6, 7, 8, 9, 10, 11, 12, 13, 14, 15, 16, 17, 18] (by kernel_rfl) ?_; rintro w1 rfl; replace hS := hS.drew)
      obtain ⟨bu, ou, u', hu', _, eu, _, hcu⟩ := (ownL_slc (G := fun _ => True) codInt (hS.get 1 rfl) fun _ _ => trivial).at hk
      cases eu
      obtain rfl := Option.some.inj (hu'.symm.trans hu)
      repeat' ((conv => whnf); first | refine RetC.mk ?_ | refine NzC.mk (by decide) ?_ | refine RngC.mk (by omega) (by omega) ?_ | refine IdxC.mk (by omega) (by omega) ?_ | refine IdxC.mk (by omega) (by omega) ?_ | refine hS.ldF 0 rfl rfl id ?_ | refine hS.ldrF (refT_l hT) htb id ?_ | refine hS.ldrF hcv htg id ?_ | refine ldFc (hcu.one 0 rfl) id ?_ | refine brD (fun _ => ?_) (fun _ => ?_) | refine brND (fun _ => ?_) (fun _ => ?_) | refine brN (fun _ => ?_) (fun _ => ?_) | refine brI (fun _ => ?_) (fun _ => ?_))
      · rename_i h5
        rw [if_pos ⟨by rw [hlb]; exact decide_eq_true h5, by omega⟩] at hps
        repeat' ((conv => whnf); first | refine RetC.mk ?_ | refine NzC.mk (by decide) ?_ | refine RngC.mk (by omega) (by omega) ?_ | refine IdxC.mk (by omega) (by omega) ?_ | refine IdxC.mk (by omega) (by omega) ?_ | refine hS.ld 0 rfl rfl ?_ | refine hS.ldr (refT_l hT) htb ?_ | refine hS.lar (l := encCell x) rfl hcx htg ?_ | refine brD (fun _ => ?_) (fun _ => ?_) | refine brND (fun _ => ?_) (fun _ => ?_) | refine brN (fun _ => ?_) (fun _ => ?_) | refine brI (fun _ => ?_) (fun _ => ?_))
        refine hS.lit (cs := encCell x) Tryd.underlying50 (sz := 10) (by kernel_rfl) (z := .agg (encCell ⟨0, 0, noFlow⟩).toArray) (by kernel_rfl) rfl rfl (by rfl) (fun bz w' hbz hS => ?_)
        (conv => whnf)
        refine hS.appS codCell 2 (ys := [x]) (G := fun _ => True) Tryd.underlying50 (bytes := 80) (by kernel_rfl) (z := .agg (encCell ⟨0, 0, noFlow⟩).toArray) (by kernel_rfl) rfl rfl (Slc.of_blk codCell (hS.blk 4 rfl) rfl (by simp) (fun _ _ => trivial) rfl) (by unfold maxLen; rw [outC_len]; omega) (by rw [outC_len]; omega) (fun a2 c2 w' hS => ?_)
        replace hS := hS.keep 4
        have hoc : outC T.cells p ++ [x] = outC T.cells (p ++ [k]) := by simp [outC, hcell]
        rw [outC_len, hoc] at hS
        rw [outC_len]
        (conv => whnf)
        refine IdxC.mk (by omega) (by omega) ?_
        (conv => whnf)
        refine hS.setL codBo 3 (k := k) (x := true) rfl (takL_at (by omega)) (by simp) rfl (fun w' _ hS => ?_)
        replace hS : St w (fun b => b = bl ∨ b = gl) w' [_, _, _, ownL 4 1 encBo (.slice (some ⟨bk, 0, none⟩) 32 32) ((takL p).set k true)] := hS
        rw [takL_set (by omega)] at hS
        have hq : p.length + 1 = (pick1 T.cells X.told (k + 1)).length := by rw [hps]; simp
        rw [hq, ← hps] at hS
        rw [hq]
        (conv => whnf)
        refine RngC.mk (by omega) (by omega) ?_
        (conv => whnf)
        refine LoopE.mk ⟨_, [(5, .int .i64 ((k + 1 : Nat) : Int)), (4, _), (3, _), (0, _)], ?_, ⟨rfl, rfl, rfl, rfl, trivial⟩, ⟨k + 1, _, rfl, rfl, by omega, ⟨a2, c2, rfl⟩, hS⟩⟩
        omega
      · rename_i h5
        rw [if_neg (fun h => by rw [hlb] at h; exact of_decide_eq_true h.1 h5)] at hps
        rw [← hps] at hS ⊢
        refine LoopE.mk ⟨_, [(5, .int .i64 ((k + 1 : Nat) : Int)), (4, _), (3, _), (0, _)], ?_, ⟨rfl, rfl, rfl, rfl, trivial⟩, ⟨k + 1, _, rfl, rfl, by omega, ⟨a', c', rfl⟩, hS⟩⟩
        omega
    · have h32 : pick1 T.cells X.told 32 = pick1 T.cells X.told k := by
        have := pick1_full (l := T.cells) (t := X.told) (k := k) (by omega) (32 - k)
        rwa [show k + (32 - k) = 32 by omega] at this
      rw [← h32] at hS ⊢
      have hp32 := pick1_len T.cells X.told 32
      have hsw : Swept X.cursor 0 X.cursor (pick1 T.cells X.told 32) := ⟨by omega, fun i hi => absurd hi (Nat.not_lt_zero _)⟩
      (conv => whnf)
      refine loopR tabOk (fun σ w' q => ∃ (j cu : Nat) (p : List Nat) (ov : Value), σ = [(4, .slice (some ⟨bk, 0, none⟩) 32 32), (3, ov), (0, .pointer (some ⟨bl, 0, none⟩))] ∧ q = 32 - j ∧ p.length ≤ 8 ∧ cu < 32 ∧ Swept X.cursor j cu p ∧ stage2 (32 - j) cu p = z2 ∧ (∃ a' c', ov = .slice a' p.length c') ∧ St w (fun b => b = bl ∨ b = gl) w' (refH bt bl gl cl bk 32 ⟨X.told, cu⟩ ov T.cells p))
        (σ' := [(4, .slice (some ⟨bk, 0, none⟩) 32 32), (3, .slice a' (pick1 T.cells X.told 32).length c'), (0, .pointer (some ⟨bl, 0, none⟩))]) (n := 32) ⟨rfl, rfl, rfl, trivial⟩ ⟨0, X.cursor, pick1 T.cells X.told 32, _, rfl, rfl, hp32, hc, hsw, hz2, ⟨a', c', rfl⟩, hS⟩ ?_
      clear hS hp32 hsw hp8 hps
      rintro _ w1 q ⟨j, cu, p, _, rfl, rfl, hp8, hcu, hsw, hs2, ⟨a', c', rfl⟩, hS⟩
      unfold refH at hS
      dsimp only at hS
      (conv => whnf)
      refine brD (fun h5 => ?_) (fun h5 => ?_)
      · have h8 : p.length < 8 := by omega
        have hj := hsw.few hc h8
        have hstep := hsw.step
        rw [show 32 - j = (32 - (j + 1)) + 1 by omega, stage2_step h8] at hs2
        obtain ⟨by_, oy, y, hy, _, ey, _, hcy⟩ := (ownL_slc (G := fun _ => True) codBo (hS.get 3 rfl) fun _ _ => trivial).at hcu
        cases ey
        obtain rfl := Option.some.inj (hy.symm.trans (takL_at hcu))
        (conv => whnf)
        refine hS.ld 0 rfl rfl ?_
        (conv => whnf)
        refine IdxC.mk (by omega) (by omega) ?_
        (conv => whnf)
        refine ldc (hcy.one 0 rfl) ?_
        by_cases hcp : cu ∈ p
        · rw [decide_eq_true hcp]
          rw [if_pos hcp] at hs2 hstep
          (conv => whnf)
          refine RngC.mk (by omega) (by omega) ?_
          (conv => whnf)
          refine hS.st 0 rfl (Nat.le_of_ble_eq_true rfl) rfl (fun w' hS => ?_)
          replace hS : St w (fun b => b = bl ∨ b = gl) w' [blk bl 105 [.pointer (some ⟨bt, 0, none⟩), .slice (some ⟨gl, 0, none⟩) 32 cl, .int .i64 ((cu : Int) + 1)], ownL 3 1 encI (.slice (some ⟨gl, 0, none⟩) 32 cl) X.told, ownL 55 10 encCell (.slice a' p.length c') (outC T.cells p), ownL 4 1 encBo (.slice (some ⟨bk, 0, none⟩) 32 32) (takL p)] := hS
          (conv => whnf)
          refine hS.ld 0 rfl rfl ?_
          (conv => whnf)
          refine brD (fun h7 => ?_) (fun h7 => ?_)
          · have hc0 : (cu + 1) % 32 = 0 := by omega
            rw [hc0] at hs2 hstep
            (conv => whnf)
            refine hS.st 0 rfl (Nat.le_of_ble_eq_true rfl) rfl (fun w' hS => ?_)
            (conv => whnf)
            refine LoopE.mk ⟨_, [(4, _), (3, _), (0, _)], ?_, ⟨rfl, rfl, rfl, trivial⟩, ⟨j + 1, 0, p, _, rfl, rfl, hp8, by omega, hstep, hs2, ⟨a', c', rfl⟩, hS⟩⟩
            omega
          · have hc0 : (cu + 1) % 32 = cu + 1 := by omega
            rw [hc0] at hs2 hstep
            (conv => whnf)
            refine LoopE.mk ⟨_, [(4, _), (3, _), (0, _)], ?_, ⟨rfl, rfl, rfl, trivial⟩, ⟨j + 1, cu + 1, p, _, rfl, rfl, hp8, by omega, hstep, hs2, ⟨a', c', rfl⟩, hS⟩⟩
            omega
        · rw [decide_eq_false hcp]
          rw [if_neg hcp] at hs2 hstep
          have hp9 : (p ++ [cu]).length ≤ 8 := by simp; omega
          obtain ⟨x, hx⟩ : ∃ x, T.cells[cu]? = some x := ⟨_, List.getElem?_eq_getElem (by omega)⟩
          have hcell := cellAt_of hx
          have hcx : CellsAt w g (0 + Int.toNat (cu : Int) * 10) (encCell x) := by rw [Nat.zero_add]; exact refT_at hT hx
          (conv => whnf)
          repeat' ((conv => whnf); first | refine RetC.mk ?_ | refine NzC.mk (by decide) ?_ | refine RngC.mk (by omega) (by omega) ?_ | refine IdxC.mk (by omega) (by omega) ?_ | refine IdxC.mk (by omega) (by omega) ?_ | refine hS.ld 0 rfl rfl ?_ | refine hS.ldr (refT_l hT) htb ?_ | refine hS.lar (l := encCell x) rfl hcx htg ?_ | refine brD (fun _ => ?_) (fun _ => ?_) | refine brND (fun _ => ?_) (fun _ => ?_) | refine brN (fun _ => ?_) (fun _ => ?_) | refine brI (fun _ => ?_) (fun _ => ?_))
          refine hS.lit (cs := encCell x) Tryd.underlying50 (sz := 10) (by kernel_rfl) (z := .agg (encCell ⟨0, 0, noFlow⟩).toArray) (by kernel_rfl) rfl rfl (by rfl) (fun bz w' hbz hS => ?_)
          (conv => whnf)
          refine hS.appS codCell 2 (ys := [x]) (G := fun _ => True) Tryd.underlying50 (bytes := 80) (by kernel_rfl) (z := .agg (encCell ⟨0, 0, noFlow⟩).toArray) (by kernel_rfl) rfl rfl (Slc.of_blk codCell (hS.blk 4 rfl) rfl (by simp) (fun _ _ => trivial) rfl) (by unfold maxLen; rw [outC_len]; omega) (by rw [outC_len]; omega) (fun a2 c2 w' hS => ?_)
          replace hS := hS.keep 4
          have hoc : outC T.cells p ++ [x] = outC T.cells (p ++ [cu]) := by simp [outC, hcell]
          rw [outC_len, hoc] at hS
          rw [outC_len]
          (conv => whnf)
          refine IdxC.mk (by omega) (by omega) ?_
          (conv => whnf)
          refine hS.setL codBo 3 (k := cu) (x := true) rfl (takL_at (by omega)) (by simp) rfl (fun w' _ hS => ?_)
          replace hS : St w (fun b => b = bl ∨ b = gl) w' [_, _, _, ownL 4 1 encBo (.slice (some ⟨bk, 0, none⟩) 32 32) ((takL p).set cu true)] := hS
          rw [takL_set (by omega)] at hS
          have hq : p.length + 1 = (p ++ [cu]).length := by simp
          rw [hq] at hS ⊢
          (conv => whnf)
          refine RngC.mk (by omega) (by omega) ?_
          (conv => whnf)
          refine hS.st 0 rfl (Nat.le_of_ble_eq_true rfl) rfl (fun w' hS => ?_)
          replace hS : St w (fun b => b = bl ∨ b = gl) w' [blk bl 105 [.pointer (some ⟨bt, 0, none⟩), .slice (some ⟨gl, 0, none⟩) 32 cl, .int .i64 ((cu : Int) + 1)], ownL 3 1 encI (.slice (some ⟨gl, 0, none⟩) 32 cl) X.told, ownL 55 10 encCell (.slice a2 (p ++ [cu]).length c2) (outC T.cells (p ++ [cu])), ownL 4 1 encBo (.slice (some ⟨bk, 0, none⟩) 32 32) (takL (p ++ [cu]))] := hS
          (conv => whnf)
          refine hS.ld 0 rfl rfl ?_
          (conv => whnf)
          refine brD (fun h7 => ?_) (fun h7 => ?_)
          · have hc0 : (cu + 1) % 32 = 0 := by omega
            rw [hc0] at hs2 hstep
            (conv => whnf)
            refine hS.st 0 rfl (Nat.le_of_ble_eq_true rfl) rfl (fun w' hS => ?_)
            (conv => whnf)
            refine LoopE.mk ⟨_, [(4, _), (3, _), (0, _)], ?_, ⟨rfl, rfl, rfl, trivial⟩, ⟨j + 1, 0, (p ++ [cu]), _, rfl, rfl, hp9, by omega, hstep, hs2, ⟨a2, c2, rfl⟩, hS⟩⟩
            omega
          · have hc0 : (cu + 1) % 32 = cu + 1 := by omega
            rw [hc0] at hs2 hstep
            (conv => whnf)
            refine LoopE.mk ⟨_, [(4, _), (3, _), (0, _)], ?_, ⟨rfl, rfl, rfl, trivial⟩, ⟨j + 1, cu + 1, (p ++ [cu]), _, rfl, rfl, hp9, by omega, hstep, hs2, ⟨a2, c2, rfl⟩, hS⟩⟩
            omega
      · have h8 : ¬ p.length < 8 := by omega
        rw [stage2_done h8] at hs2
        obtain rfl : X.picks T.cells = p := by rw [hpk, ← hs2]
        have hcz : (X.next T.cells).cursor = cu := by rw [hnx, ← hs2]
        have hP := picks_law T.cells hc
        have hlt := hP.lt
        have hpl := hP.len
        have hnt : (X.next T.cells).told = tellAll T.cells X.told (X.picks T.cells) := rfl
        have hnx2 : X.next T.cells = ⟨tellAll T.cells X.told (X.picks T.cells), cu⟩ := by rw [hnx, ← hs2]
        rw [hnx2]
        generalize X.picks T.cells = p at *
        (conv => whnf)
        refine loopR tabOk (fun σ w' q => ∃ i : Nat, σ = [(7, .int .i64 i), (3, .slice a' p.length c'), (0, .pointer (some ⟨bl, 0, none⟩))] ∧ q = 8 - i ∧ i ≤ 8 ∧ St w (fun b => b = bl ∨ b = gl) w' (refH bt bl gl cl bk 32 ⟨tellAll T.cells X.told (p.take i), cu⟩ (.slice a' p.length c') T.cells p))
          (σ' := [(7, .int .i64 ((0 : Nat) : Int)), (3, .slice a' p.length c'), (0, .pointer (some ⟨bl, 0, none⟩))]) (n := 8) ⟨rfl, rfl, rfl, trivial⟩ ⟨0, rfl, rfl, Nat.zero_le _, hS⟩ ?_
        clear hS
        rintro _ w1 q ⟨i, rfl, rfl, hi, hS⟩
        unfold refH at hS
        dsimp only at hS
        (conv => whnf)
        refine brD (fun h6 => ?_) (fun h6 => ?_)
        · have hi8 : i < p.length := by omega
          obtain ⟨k, hk, hok⟩ := out_at hO hlt hi8
          have hk32 := hlt k (List.mem_of_getElem? hk)
          have hlen := (tellAll_len T.cells (p.take i) X.told).trans ht
          obtain ⟨u, hu⟩ : ∃ u, (tellAll T.cells X.told (p.take i))[k]? = some u := ⟨_, List.getElem?_eq_getElem (by omega)⟩
          have hstep : (tellAll T.cells X.told (p.take i)).set k (verAt T.cells k) = tellAll T.cells X.told (p.take (i + 1)) := by
            rw [List.take_add_one, hk]
            exact (tellAll_app _ _ _ _).symm
          (conv => whnf)
          (refine drawS tabOk mixed [] ((· = gl)) [0, 1, 2, 3, 4, 5, 6, 7, 8, 9, 10, 11, 12, 13, 14, 15] (by kernel_rfl) ?_; rintro w1 rfl; replace hS := hS.drew)
          obtain ⟨bo, oo, x, hx, _, rfl, _, hcx⟩ := (ownL_slc (G := fun _ => True) codCell (hS.get 2 rfl) fun _ _ => trivial).at (k := i) hi8
          obtain ⟨hx1, hx2⟩ := hok x hx
          rw [hx2] at hstep
          have hbo : ¬ bo = gl := by
            rintro rfl
            have := pairwise_at apart_symm hS.apart (i := 1) (j := 2) rfl rfl (by decide) bo (by simp [ownL, own, Value.ownBlock])
            simp [ownL, own, Value.ownBlock] at this
          repeat' ((conv => whnf); first | refine IdxC.mk (by omega) (by omega) ?_ | refine hS.ldF 0 rfl rfl hL1 ?_ | refine ldFc (hcx.one 0 rfl) hbo ?_ | refine ldFc (hcx.one 1 rfl) hbo ?_)
          (conv => whnf)
          refine hS.setL codInt 1 (k := k) (x := x.ver) rfl hu (by omega) rfl (fun w' hx' hS => ?_)
          refine KeepC.mk hx' ?_
          replace hS : St w (fun b => b = bl ∨ b = gl) w' (refH bt bl gl cl bk 32 ⟨tellAll T.cells X.told (p.take (i + 1)), cu⟩ (.slice (some ⟨bo, oo, none⟩) p.length c') T.cells p) := by
            rw [← hstep]
            exact hS
          (conv => whnf)
          refine RngC.mk (by omega) (by omega) ?_
          (conv => whnf)
          refine LoopE.mk ⟨_, [(7, .int .i64 ((i + 1 : Nat) : Int)), (3, _), (0, _)], ?_, ⟨rfl, rfl, rfl, trivial⟩, ⟨i + 1, rfl, rfl, by omega, hS⟩⟩
          omega
        · obtain rfl : i = 8 := by omega
          rw [List.take_of_length_le (by omega)] at hS
          repeat' ((conv => whnf); first | refine RetC.mk ?_ | refine NzC.mk (by decide) ?_ | refine RngC.mk (by omega) (by omega) ?_ | refine IdxC.mk (by omega) (by omega) ?_ | refine brD (fun _ => ?_) (fun _ => ?_) | refine brND (fun _ => ?_) (fun _ => ?_) | refine brN (fun _ => ?_) (fun _ => ?_) | refine brI (fun _ => ?_) (fun _ => ?_))
          refine ⟨⟨a', c', rfl⟩, hS.ext, ⟨hL1, hS.blk 0 rfl, hS.get 1 rfl⟩, hS.get 2 rfl, fun q hq => ?_⟩
          obtain ⟨h1, h2⟩ := hS.may _ (List.mem_of_getElem? (i := 2) rfl) q (by simpa [ownL, own] using hq)
          refine ⟨h1.resolve_left ?_, h2⟩
          rintro (rfl | rfl)
          · exact hS.ownBNe 0 2 rfl rfl (by decide) hq
          · have := pairwise_at apart_symm hS.apart (i := 1) (j := 2) rfl rfl (by decide) q (by simp [ownL, own, Value.ownBlock])
            exact this (by simpa [ownL, own] using hq)
  · obtain rfl : k = 32 := by omega
    have hp32 := pick1_len T.cells X.told 32
    have hsw : Swept X.cursor 0 X.cursor (pick1 T.cells X.told 32) := ⟨by omega, fun i hi => absurd hi (Nat.not_lt_zero _)⟩
    (conv => whnf)
    refine loopR tabOk (fun σ w' q => ∃ (j cu : Nat) (p : List Nat) (ov : Value), σ = [(4, .slice (some ⟨bk, 0, none⟩) 32 32), (3, ov), (0, .pointer (some ⟨bl, 0, none⟩))] ∧ q = 32 - j ∧ p.length ≤ 8 ∧ cu < 32 ∧ Swept X.cursor j cu p ∧ stage2 (32 - j) cu p = z2 ∧ (∃ a' c', ov = .slice a' p.length c') ∧ St w (fun b => b = bl ∨ b = gl) w' (refH bt bl gl cl bk 32 ⟨X.told, cu⟩ ov T.cells p))
      (σ' := [(4, .slice (some ⟨bk, 0, none⟩) 32 32), (3, .slice a' (pick1 T.cells X.told 32).length c'), (0, .pointer (some ⟨bl, 0, none⟩))]) (n := 32) ⟨rfl, rfl, rfl, trivial⟩ ⟨0, X.cursor, pick1 T.cells X.told 32, _, rfl, rfl, hp32, hc, hsw, hz2, ⟨a', c', rfl⟩, hS⟩ ?_
    clear hS hp32 hsw hp8 hps
    rintro _ w1 q ⟨j, cu, p, _, rfl, rfl, hp8, hcu, hsw, hs2, ⟨a', c', rfl⟩, hS⟩
    unfold refH at hS
    dsimp only at hS
    (conv => whnf)
    refine brD (fun h5 => ?_) (fun h5 => ?_)
    · have h8 : p.length < 8 := by omega
      have hj := hsw.few hc h8
      have hstep := hsw.step
      rw [show 32 - j = (32 - (j + 1)) + 1 by omega, stage2_step h8] at hs2
      obtain ⟨by_, oy, y, hy, _, ey, _, hcy⟩ := (ownL_slc (G := fun _ => True) codBo (hS.get 3 rfl) fun _ _ => trivial).at hcu
      cases ey
      obtain rfl := Option.some.inj (hy.symm.trans (takL_at hcu))
      (conv => whnf)
      refine hS.ld 0 rfl rfl ?_
      (conv => whnf)
      refine IdxC.mk (by omega) (by omega) ?_
      (conv => whnf)
      refine ldc (hcy.one 0 rfl) ?_
      by_cases hcp : cu ∈ p
      · rw [decide_eq_true hcp]
        rw [if_pos hcp] at hs2 hstep
        (conv => whnf)
        refine RngC.mk (by omega) (by omega) ?_
        (conv => whnf)
        refine hS.st 0 rfl (Nat.le_of_ble_eq_true rfl) rfl (fun w' hS => ?_)
        replace hS : St w (fun b => b = bl ∨ b = gl) w' [blk bl 105 [.pointer (some ⟨bt, 0, none⟩), .slice (some ⟨gl, 0, none⟩) 32 cl, .int .i64 ((cu : Int) + 1)], ownL 3 1 encI (.slice (some ⟨gl, 0, none⟩) 32 cl) X.told, ownL 55 10 encCell (.slice a' p.length c') (outC T.cells p), ownL 4 1 encBo (.slice (some ⟨bk, 0, none⟩) 32 32) (takL p)] := hS
        (conv => whnf)
        refine hS.ld 0 rfl rfl ?_
        (conv => whnf)
        refine brD (fun h7 => ?_) (fun h7 => ?_)
        · have hc0 : (cu + 1) % 32 = 0 := by omega
          rw [hc0] at hs2 hstep
          (conv => whnf)
          refine hS.st 0 rfl (Nat.le_of_ble_eq_true rfl) rfl (fun w' hS => ?_)
          (conv => whnf)
          refine LoopE.mk ⟨_, [(4, _), (3, _), (0, _)], ?_, ⟨rfl, rfl, rfl, trivial⟩, ⟨j + 1, 0, p, _, rfl, rfl, hp8, by omega, hstep, hs2, ⟨a', c', rfl⟩, hS⟩⟩
          omega
        · have hc0 : (cu + 1) % 32 = cu + 1 := by omega
          rw [hc0] at hs2 hstep
          (conv => whnf)
          refine LoopE.mk ⟨_, [(4, _), (3, _), (0, _)], ?_, ⟨rfl, rfl, rfl, trivial⟩, ⟨j + 1, cu + 1, p, _, rfl, rfl, hp8, by omega, hstep, hs2, ⟨a', c', rfl⟩, hS⟩⟩
          omega
      · rw [decide_eq_false hcp]
        rw [if_neg hcp] at hs2 hstep
        have hp9 : (p ++ [cu]).length ≤ 8 := by simp; omega
        obtain ⟨x, hx⟩ : ∃ x, T.cells[cu]? = some x := ⟨_, List.getElem?_eq_getElem (by omega)⟩
        have hcell := cellAt_of hx
        have hcx : CellsAt w g (0 + Int.toNat (cu : Int) * 10) (encCell x) := by rw [Nat.zero_add]; exact refT_at hT hx
        (conv => whnf)
        repeat' ((conv => whnf); first | refine RetC.mk ?_ | refine NzC.mk (by decide) ?_ | refine RngC.mk (by omega) (by omega) ?_ | refine IdxC.mk (by omega) (by omega) ?_ | refine IdxC.mk (by omega) (by omega) ?_ | refine hS.ld 0 rfl rfl ?_ | refine hS.ldr (refT_l hT) htb ?_ | refine hS.lar (l := encCell x) rfl hcx htg ?_ | refine brD (fun _ => ?_) (fun _ => ?_) | refine brND (fun _ => ?_) (fun _ => ?_) | refine brN (fun _ => ?_) (fun _ => ?_) | refine brI (fun _ => ?_) (fun _ => ?_))
        refine hS.lit (cs := encCell x) Tryd.underlying50 (sz := 10) (by kernel_rfl) (z := .agg (encCell ⟨0, 0, noFlow⟩).toArray) (by kernel_rfl) rfl rfl (by rfl) (fun bz w' hbz hS => ?_)
        (conv => whnf)
        refine hS.appS codCell 2 (ys := [x]) (G := fun _ => True) Tryd.underlying50 (bytes := 80) (by kernel_rfl) (z := .agg (encCell ⟨0, 0, noFlow⟩).toArray) (by kernel_rfl) rfl rfl (Slc.of_blk codCell (hS.blk 4 rfl) rfl (by simp) (fun _ _ => trivial) rfl) (by unfold maxLen; rw [outC_len]; omega) (by rw [outC_len]; omega) (fun a2 c2 w' hS => ?_)
        replace hS := hS.keep 4
        have hoc : outC T.cells p ++ [x] = outC T.cells (p ++ [cu]) := by simp [outC, hcell]
        rw [outC_len, hoc] at hS
        rw [outC_len]
        (conv => whnf)
        refine IdxC.mk (by omega) (by omega) ?_
        (conv => whnf)
        refine hS.setL codBo 3 (k := cu) (x := true) rfl (takL_at (by omega)) (by simp) rfl (fun w' _ hS => ?_)
        replace hS : St w (fun b => b = bl ∨ b = gl) w' [_, _, _, ownL 4 1 encBo (.slice (some ⟨bk, 0, none⟩) 32 32) ((takL p).set cu true)] := hS
        rw [takL_set (by omega)] at hS
        have hq : p.length + 1 = (p ++ [cu]).length := by simp
        rw [hq] at hS ⊢
        (conv => whnf)
        refine RngC.mk (by omega) (by omega) ?_
        (conv => whnf)
        refine hS.st 0 rfl (Nat.le_of_ble_eq_true rfl) rfl (fun w' hS => ?_)
        replace hS : St w (fun b => b = bl ∨ b = gl) w' [blk bl 105 [.pointer (some ⟨bt, 0, none⟩), .slice (some ⟨gl, 0, none⟩) 32 cl, .int .i64 ((cu : Int) + 1)], ownL 3 1 encI (.slice (some ⟨gl, 0, none⟩) 32 cl) X.told, ownL 55 10 encCell (.slice a2 (p ++ [cu]).length c2) (outC T.cells (p ++ [cu])), ownL 4 1 encBo (.slice (some ⟨bk, 0, none⟩) 32 32) (takL (p ++ [cu]))] := hS
        (conv => whnf)
        refine hS.ld 0 rfl rfl ?_
        (conv => whnf)
        refine brD (fun h7 => ?_) (fun h7 => ?_)
        · have hc0 : (cu + 1) % 32 = 0 := by omega
          rw [hc0] at hs2 hstep
          (conv => whnf)
          refine hS.st 0 rfl (Nat.le_of_ble_eq_true rfl) rfl (fun w' hS => ?_)
          (conv => whnf)
          refine LoopE.mk ⟨_, [(4, _), (3, _), (0, _)], ?_, ⟨rfl, rfl, rfl, trivial⟩, ⟨j + 1, 0, (p ++ [cu]), _, rfl, rfl, hp9, by omega, hstep, hs2, ⟨a2, c2, rfl⟩, hS⟩⟩
          omega
        · have hc0 : (cu + 1) % 32 = cu + 1 := by omega
          rw [hc0] at hs2 hstep
          (conv => whnf)
          refine LoopE.mk ⟨_, [(4, _), (3, _), (0, _)], ?_, ⟨rfl, rfl, rfl, trivial⟩, ⟨j + 1, cu + 1, (p ++ [cu]), _, rfl, rfl, hp9, by omega, hstep, hs2, ⟨a2, c2, rfl⟩, hS⟩⟩
          omega
    · have h8 : ¬ p.length < 8 := by omega
      rw [stage2_done h8] at hs2
      obtain rfl : X.picks T.cells = p := by rw [hpk, ← hs2]
      have hcz : (X.next T.cells).cursor = cu := by rw [hnx, ← hs2]
      have hP := picks_law T.cells hc
      have hlt := hP.lt
      have hpl := hP.len
      have hnt : (X.next T.cells).told = tellAll T.cells X.told (X.picks T.cells) := rfl
      have hnx2 : X.next T.cells = ⟨tellAll T.cells X.told (X.picks T.cells), cu⟩ := by rw [hnx, ← hs2]
      rw [hnx2]
      generalize X.picks T.cells = p at *
      (conv => whnf)
      refine loopR tabOk (fun σ w' q => ∃ i : Nat, σ = [(7, .int .i64 i), (3, .slice a' p.length c'), (0, .pointer (some ⟨bl, 0, none⟩))] ∧ q = 8 - i ∧ i ≤ 8 ∧ St w (fun b => b = bl ∨ b = gl) w' (refH bt bl gl cl bk 32 ⟨tellAll T.cells X.told (p.take i), cu⟩ (.slice a' p.length c') T.cells p))
        (σ' := [(7, .int .i64 ((0 : Nat) : Int)), (3, .slice a' p.length c'), (0, .pointer (some ⟨bl, 0, none⟩))]) (n := 8) ⟨rfl, rfl, rfl, trivial⟩ ⟨0, rfl, rfl, Nat.zero_le _, hS⟩ ?_
      clear hS
      rintro _ w1 q ⟨i, rfl, rfl, hi, hS⟩
      unfold refH at hS
      dsimp only at hS
      (conv => whnf)
      refine brD (fun h6 => ?_) (fun h6 => ?_)
      · have hi8 : i < p.length := by omega
        obtain ⟨k, hk, hok⟩ := out_at hO hlt hi8
        have hk32 := hlt k (List.mem_of_getElem? hk)
        have hlen := (tellAll_len T.cells (p.take i) X.told).trans ht
        obtain ⟨u, hu⟩ : ∃ u, (tellAll T.cells X.told (p.take i))[k]? = some u := ⟨_, List.getElem?_eq_getElem (by omega)⟩
        have hstep : (tellAll T.cells X.told (p.take i)).set k (verAt T.cells k) = tellAll T.cells X.told (p.take (i + 1)) := by
          rw [List.take_add_one, hk]
          exact (tellAll_app _ _ _ _).symm
        (conv => whnf)
        (refine drawS tabOk mixed [] ((· = gl)) [0, 1, 2, 3, 4, 5, 6, 7, 8, 9, 10, 11, 12, 13, 14, 15] (by kernel_rfl) ?_; rintro w1 rfl; replace hS := hS.drew)
        obtain ⟨bo, oo, x, hx, _, rfl, _, hcx⟩ := (ownL_slc (G := fun _ => True) codCell (hS.get 2 rfl) fun _ _ => trivial).at (k := i) hi8
        obtain ⟨hx1, hx2⟩ := hok x hx
        rw [hx2] at hstep
        have hbo : ¬ bo = gl := by
          rintro rfl
          have := pairwise_at apart_symm hS.apart (i := 1) (j := 2) rfl rfl (by decide) bo (by simp [ownL, own, Value.ownBlock])
          simp [ownL, own, Value.ownBlock] at this
        repeat' ((conv => whnf); first | refine IdxC.mk (by omega) (by omega) ?_ | refine hS.ldF 0 rfl rfl hL1 ?_ | refine ldFc (hcx.one 0 rfl) hbo ?_ | refine ldFc (hcx.one 1 rfl) hbo ?_)
        (conv => whnf)
        refine hS.setL codInt 1 (k := k) (x := x.ver) rfl hu (by omega) rfl (fun w' hx' hS => ?_)
        refine KeepC.mk hx' ?_
        replace hS : St w (fun b => b = bl ∨ b = gl) w' (refH bt bl gl cl bk 32 ⟨tellAll T.cells X.told (p.take (i + 1)), cu⟩ (.slice (some ⟨bo, oo, none⟩) p.length c') T.cells p) := by
          rw [← hstep]
          exact hS
        (conv => whnf)
        refine RngC.mk (by omega) (by omega) ?_
        (conv => whnf)
        refine LoopE.mk ⟨_, [(7, .int .i64 ((i + 1 : Nat) : Int)), (3, _), (0, _)], ?_, ⟨rfl, rfl, rfl, trivial⟩, ⟨i + 1, rfl, rfl, by omega, hS⟩⟩
        omega
      · obtain rfl : i = 8 := by omega
        rw [List.take_of_length_le (by omega)] at hS
        repeat' ((conv => whnf); first | refine RetC.mk ?_ | refine NzC.mk (by decide) ?_ | refine RngC.mk (by omega) (by omega) ?_ | refine IdxC.mk (by omega) (by omega) ?_ | refine brD (fun _ => ?_) (fun _ => ?_) | refine brND (fun _ => ?_) (fun _ => ?_) | refine brN (fun _ => ?_) (fun _ => ?_) | refine brI (fun _ => ?_) (fun _ => ?_))
        refine ⟨⟨a', c', rfl⟩, hS.ext, ⟨hL1, hS.blk 0 rfl, hS.get 1 rfl⟩, hS.get 2 rfl, fun q hq => ?_⟩
        obtain ⟨h1, h2⟩ := hS.may _ (List.mem_of_getElem? (i := 2) rfl) q (by simpa [ownL, own] using hq)
        refine ⟨h1.resolve_left ?_, h2⟩
        rintro (rfl | rfl)
        · exact hS.ownBNe 0 2 rfl rfl (by decide) hq
        · have := pairwise_at apart_symm hS.apart (i := 1) (j := 2) rfl rfl (by decide) q (by simp [ownL, own, Value.ownBlock])
          exact this (by simpa [ownL, own] using hq)
end
end Go.Proofs.YteakdmngllfodaaDoor
