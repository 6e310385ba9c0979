
/-
  Package teller, walked: Next, Lag.
-/
import Derived.Test.YteakdmngllfodaaDoorTeller
namespace Go.Proofs.YteakdmngllfodaaDoor
open Go Ev

section
variable {w : World} {bT bx : Nat} {X : TelS} {T : MirS}
theorem tlNext_ok (hX : Blk w bx 103 (encTel bT X)) (hT : Blk w bT 100 (encM T)) (hl : T.cells.length = 32) (ht : X.told.length = 32) (hc : X.cursor < 32) :
    CallC Tryd.prog 21 #[.pointer (some ⟨bx, 0, none⟩)] w fun v w' => (∃ a' c', v = .slice a' (X.picks T.cells).length c') ∧ Ext (· = bx) w w' ∧ Blk w' bx 103 (encTel bT (X.next T.cells)) ∧ (ownL 55 10 encCell v (outC T.cells (X.picks T.cells))).holds w' ∧ Fresh w w' v := by
  have hbT : ¬ bT = bx := Blk.ne hT hX (by decide)
  have hlx := hX.lt
  generalize hL : T.cells = l at hl ⊢
  refine fn_intro tabOk Tryd.func21 (by kernel_rfl) rfl Tryd.ntmps21 (Nat.le_of_ble_eq_true rfl) ?_
  have hS := (St.start w (· = bx)).add (blk_local bx _ _) hX (by simp [blk]; exact hlx) (by simp)
  (conv => whnf)
  refine hS.new (fun b1 w' _ hS => ?_)
  (conv => whnf)
  refine hS.ld 1 rfl rfl ?_
  (conv => whnf)
  refine hS.ld 0 rfl rfl ?_
  (conv => whnf)
  refine (tcells_ok (hS.ext.blk hT hbT) (by rw [hL]; exact hl)).mono ?_
  rintro v w' ⟨al, cl, rfl, hx', ho, hf⟩
  rw [hL] at ho
  replace hS := hS.madeL hx' ho hf
  clear hx' ho hf
  (conv => whnf)
  refine hS.new (fun b3 w' _ hS => ?_)
  (conv => whnf)
  refine hS.st 3 rfl (Nat.le_of_ble_eq_true rfl) rfl (fun w' hS => ?_)
  (conv => whnf)
  refine hS.mkMapB (fun r w' _ hS => ?_)
  (conv => whnf)
  refine hS.new (fun b4 w' _ hS => ?_)
  (conv => whnf)
  refine hS.st 5 rfl (Nat.le_of_ble_eq_true rfl) rfl (fun w' hS => ?_)
  (conv => whnf)
  refine hS.new (fun b5 w' _ hS => ?_)
  have hS := hS.add (ownL_local (e := 55) (enc := encCell) (sz := 10) (v := .slice none 0 0) (xs := [])) (own_nil _ _ _) (by simp [ownL, own, Value.ownBlock]) (by simp [ownL, own, Value.ownBlock])
  replace hS : St w (· = bx) w' (telH bT bx b1 b3 b4 b5 r ⟨tellAll l X.told (pick1 l X.told 0), X.cursor⟩ (.slice al 32 cl) (.slice none 0 0) l (pick1 l X.told 0)) := hS
  (conv => whnf)
  refine hS.ld 3 rfl rfl ?_
  (conv => whnf)
  refine loopR tabOk (fun σ w' q => ∃ (k : Nat) (ov : Value), σ = [(19, .int .i64 k), (18, .int .i64 (32 : Nat)), (17, .slice al 32 cl), (6, .func (.func 66) #[] #[.pointer (some ⟨b4, 0, none⟩), .pointer (some ⟨b3, 0, none⟩), .pointer (some ⟨b1, 0, none⟩), .pointer (some ⟨b5, 0, none⟩)]), (5, .pointer (some ⟨b5, 0, none⟩)), (4, .pointer (some ⟨b4, 0, none⟩)), (3, .pointer (some ⟨b3, 0, none⟩)), (1, .pointer (some ⟨b1, 0, none⟩))] ∧ q = 32 - k ∧ k ≤ 32 ∧ (∃ a' c', ov = .slice a' (pick1 l X.told k).length c') ∧ St w (· = bx) w' (telH bT bx b1 b3 b4 b5 r ⟨tellAll l X.told (pick1 l X.told k), X.cursor⟩ (.slice al 32 cl) ov l (pick1 l X.told k)))
    (σ' := [(19, .int .i64 ((0 : Nat) : Int)), (18, .int .i64 (32 : Nat)), (17, .slice al 32 cl), (6, .func (.func 66) #[] #[.pointer (some ⟨b4, 0, none⟩), .pointer (some ⟨b3, 0, none⟩), .pointer (some ⟨b1, 0, none⟩), .pointer (some ⟨b5, 0, none⟩)]), (5, .pointer (some ⟨b5, 0, none⟩)), (4, .pointer (some ⟨b4, 0, none⟩)), (3, .pointer (some ⟨b3, 0, none⟩)), (1, .pointer (some ⟨b1, 0, none⟩))]) (n := 32) ⟨rfl, rfl, rfl, rfl, rfl, rfl, rfl, rfl, trivial⟩ ⟨0, _, rfl, rfl, Nat.zero_le _, ⟨none, 0, rfl⟩, hS⟩ ?_
  clear hS
  rintro _ w1 q ⟨k, _, rfl, rfl, hk, ⟨a', c', rfl⟩, hS⟩
  have hplt : ∀ x ∈ pick1 l X.told k, x < k := fun x hx => pick1_lt hx
  have hp8 := pick1_len l X.told k
  have hps := pick1_succ l X.told k
  have htl := (tellAll_len l (pick1 l X.told k) X.told).trans ht
  (conv => whnf)
  refine brD (fun h3 => ?_) (fun h3 => ?_)
  · have hk : k < 32 := by omega
    have hkn : k ∉ pick1 l X.told k := fun h => Nat.lt_irrefl _ (hplt k h)
    have htk := tellAll_at l (pick1 l X.told k) X.told k (by omega)
    rw [if_neg hkn] at htk
    obtain ⟨x, hx⟩ : ∃ x, l[k]? = some x := ⟨_, List.getElem?_eq_getElem (by omega)⟩
    have hver := verAt_of hx
    generalize pick1 l X.told k = p at hS hplt hp8 hps htl hkn htk
    unfold telH at hS
    obtain ⟨bl, ol, x', hx', _, rfl, _, hcx⟩ := (ownL_slc (G := fun _ => True) codCell (hS.get 2 rfl) fun _ _ => trivial).at hk
    obtain rfl := Option.some.inj (hx'.symm.trans hx)
    (conv => whnf)
    refine IdxC.mk (by omega) (by omega) ?_
    (conv => whnf)
    refine lac (l := encCell x') rfl hcx ?_
    (conv => whnf)
    refine hS.new (fun b8 w' _ hS => ?_)
    (conv => whnf)
    refine hS.st 8 rfl (Nat.le_of_ble_eq_true rfl) rfl (fun w' hS => ?_)
    (conv => whnf)
    (refine drawS tabOk mixed [] No [0, 1, 2, 3, 4, 5, 6, 7, 8, 9, 10, 11, 12, 13] (by kernel_rfl) ?_; rintro w1 rfl; replace hS := hS.drew)
    have hd := tel_told (bT := bT) (X := ⟨tellAll l X.told p, X.cursor⟩) htk
    repeat' ((conv => whnf); first | refine RetC.mk ?_ | refine NzC.mk (by decide) ?_ | refine RngC.mk (by omega) (by omega) ?_ | refine IdxC.mk (by omega) (by omega) ?_ | refine hS.ldF 8 rfl rfl id ?_ | refine hS.ldF 1 rfl rfl id ?_ | refine IdxC.mk (by omega) (by omega) ?_ | refine hS.ldF 0 rfl (o := 0 + 1 + Int.toNat (k : Int) * 1) (by rw [← hd]; congr 1; simp) id ?_ | refine hS.ldF 6 rfl rfl id ?_ | refine brD (fun _ => ?_) (fun _ => ?_) | refine brND (fun _ => ?_) (fun _ => ?_) | refine brN (fun _ => ?_) (fun _ => ?_) | refine brI (fun _ => ?_) (fun _ => ?_))
    · rename_i h1 h2
      have hlag : lagB l X.told k = true := decide_eq_true (by rw [hver]; exact h1)
      rw [if_pos ⟨hlag, by omega⟩] at hps
      (conv => whnf)
      refine (take_ok k hk hl htl hkn (by omega) (hS.keep 8)).mono ?_
      clear hS
      rintro v w' ⟨a2, c2, hS⟩
      have htt : (tellAll l X.told p).set k (verAt l k) = tellAll l X.told (p ++ [k]) := (tellAll_app l X.told p k).symm
      dsimp only at hS
      rw [htt, ← hps] at hS
      have hpl : p.length + 1 = (pick1 l X.told (k + 1)).length := by rw [hps]; simp
      rw [hpl] at hS
      (conv => whnf)
      refine RngC.mk (by omega) (by omega) ?_
      (conv => whnf)
      refine LoopE.mk ⟨_, [(19, .int .i64 ((k + 1 : Nat) : Int)), (18, _), (17, _), (6, _), (5, _), (4, _), (3, _), (1, _)], ?_, ⟨rfl, rfl, rfl, rfl, rfl, rfl, rfl, rfl, trivial⟩, ⟨k + 1, _, rfl, rfl, by omega, ⟨a2, c2, rfl⟩, hS⟩⟩
      omega
    · rename_i h1 h2
      rw [if_neg (fun h => h2 (by omega))] at hps
      rw [← hps] at hS
      refine LoopE.mk ⟨_, [(19, .int .i64 ((k + 1 : Nat) : Int)), (18, _), (17, _), (6, _), (5, _), (4, _), (3, _), (1, _)], ?_, ⟨rfl, rfl, rfl, rfl, rfl, rfl, rfl, rfl, trivial⟩, ⟨k + 1, _, rfl, rfl, by omega, ⟨a', c', by rw [hps]⟩, hS.keep 8⟩⟩
      omega
    · rename_i h1
      rw [if_neg (fun h => absurd (hver.trans h1) (of_decide_eq_true h.1))] at hps
      rw [← hps] at hS
      refine LoopE.mk ⟨_, [(19, .int .i64 ((k + 1 : Nat) : Int)), (18, _), (17, _), (6, _), (5, _), (4, _), (3, _), (1, _)], ?_, ⟨rfl, rfl, rfl, rfl, rfl, rfl, rfl, rfl, trivial⟩, ⟨k + 1, _, rfl, rfl, by omega, ⟨a', c', by rw [hps]⟩, hS.keep 8⟩⟩
      omega
  · obtain rfl : k = 32 := by omega
    have hnd := pick1_nodup l X.told 32
    have hpk : X.picks l = (stage2 32 X.cursor (pick1 l X.told 32)).2 := rfl
    have hnx : X.next l = ⟨tellAll l X.told (X.picks l), (stage2 32 X.cursor (pick1 l X.told 32)).1⟩ := rfl
    have hsw : Swept X.cursor 0 X.cursor (pick1 l X.told 32) := ⟨by omega, fun i hi => absurd hi (Nat.not_lt_zero _)⟩
    clear hps
    generalize hs2 : stage2 32 X.cursor (pick1 l X.told 32) = z2 at hpk hnx
    generalize pick1 l X.told 32 = p at hS hplt hp8 htl hnd hsw hs2
    (conv => whnf)
    refine loopR tabOk (fun σ w' q => ∃ (j c : Nat) (p : List Nat) (ov : Value), σ = [(6, .func (.func 66) #[] #[.pointer (some ⟨b4, 0, none⟩), .pointer (some ⟨b3, 0, none⟩), .pointer (some ⟨b1, 0, none⟩), .pointer (some ⟨b5, 0, none⟩)]), (5, .pointer (some ⟨b5, 0, none⟩)), (4, .pointer (some ⟨b4, 0, none⟩)), (3, .pointer (some ⟨b3, 0, none⟩)), (1, .pointer (some ⟨b1, 0, none⟩))] ∧ q = 32 - j ∧ p.length ≤ 8 ∧ c < 32 ∧ Swept X.cursor j c p ∧ stage2 (32 - j) c p = z2 ∧ (∃ a' c', ov = .slice a' p.length c') ∧ St w (· = bx) w' (telH bT bx b1 b3 b4 b5 r ⟨tellAll l X.told p, c⟩ (.slice al 32 cl) ov l p))
      (σ' := [(6, .func (.func 66) #[] #[.pointer (some ⟨b4, 0, none⟩), .pointer (some ⟨b3, 0, none⟩), .pointer (some ⟨b1, 0, none⟩), .pointer (some ⟨b5, 0, none⟩)]), (5, .pointer (some ⟨b5, 0, none⟩)), (4, .pointer (some ⟨b4, 0, none⟩)), (3, .pointer (some ⟨b3, 0, none⟩)), (1, .pointer (some ⟨b1, 0, none⟩))]) (n := 32) ⟨rfl, rfl, rfl, rfl, rfl, trivial⟩ ⟨0, X.cursor, p, _, rfl, rfl, hp8, hc, hsw, hs2, ⟨a', c', rfl⟩, hS⟩ ?_
    clear hS hp8 hplt htl hnd hsw hs2
    clear p
    rintro _ w1 q ⟨j, c, p, _, rfl, rfl, hp8, hc32, hsw, hs2, ⟨a', c', rfl⟩, hS⟩
    have htl := (tellAll_len l p X.told).trans ht
    unfold telH at hS
    have hcur : (encTel bT ⟨tellAll l X.told p, c⟩)[33]? = some (.int .i64 (c : Int)) := tel_cur htl
    have h10 : ¬ b1 = bx := Blk.ne (hS.blk 1 rfl) (hS.blk 0 rfl) (by decide)
    (conv => whnf)
    refine hS.ld 6 rfl rfl ?_
    (conv => whnf)
    refine brD (fun h3 => ?_) (fun h3 => ?_)
    · have h8 : p.length < 8 := by omega
      have hj := hsw.few hc h8
      have hstep := hsw.step
      rw [show 32 - j = (32 - (j + 1)) + 1 by omega, stage2_step h8] at hs2
      (conv => whnf)
      refine hS.ld 1 rfl rfl ?_
      (conv => whnf)
      refine hS.ld 0 rfl hcur ?_
      (conv => whnf)
      refine hS.ld 5 rfl rfl ?_
      (conv => whnf)
      refine hS.lookB 4 rfl ?_
      by_cases hcp : c ∈ p
      · rw [decide_eq_true hcp]
        rw [if_pos hcp] at hs2 hstep
        (conv => whnf)
        have hcur2 : (encTel bT ⟨tellAll l X.told p, c⟩)[33]? = some (.int .i64 (c : Int)) := tel_cur htl
        (refine drawS tabOk mixed [4] (· = bx) [0, 1, 2, 3, 4, 5, 6, 7, 8, 9] (by kernel_rfl) ?_; rintro w1 rfl; replace hS := hS.drew)
        repeat' ((conv => whnf); first | refine RetC.mk ?_ | refine NzC.mk (by decide) ?_ | refine RngC.mk (by omega) (by omega) ?_ | refine IdxC.mk (by omega) (by omega) ?_ | refine hS.ldF 1 rfl rfl h10 ?_ | refine hS.ld 0 rfl hcur2 ?_ | refine KeepC.mk (Ext.refl _ _) ?_ | refine brD (fun _ => ?_) (fun _ => ?_) | refine brND (fun _ => ?_) (fun _ => ?_) | refine brN (fun _ => ?_) (fun _ => ?_) | refine brI (fun _ => ?_) (fun _ => ?_))
        refine hS.stX 0 rfl (by rw [tel_len htl]; simp [cellsL]) rfl (fun w2 hx2 hS => ?_)
        refine KeepC.mk hx2 ?_
        have hmv : over (encTel bT ⟨tellAll l X.told p, c⟩) (0 + 33) (cellsL (.int .i64 (((c : Int) + 1).tmod 32))) = encTel bT ⟨tellAll l X.told p, (c + 1) % 32⟩ := tel_move htl (by rw [Int.tmod_eq_emod_of_nonneg (by omega)]; omega)
        replace hS : St w (· = bx) w2 (telH bT bx b1 b3 b4 b5 r ⟨tellAll l X.told p, (c + 1) % 32⟩ (.slice al 32 cl) (.slice a' p.length c') l p) := by
          unfold telH
          rw [← hmv]
          exact hS
        (conv => whnf)
        refine LoopE.mk ⟨_, [(6, _), (5, _), (4, _), (3, _), (1, _)], ?_, ⟨rfl, rfl, rfl, rfl, rfl, trivial⟩, ⟨j + 1, (c + 1) % 32, p, _, rfl, rfl, hp8, Nat.mod_lt _ (by omega), hstep, hs2, ⟨a', c', rfl⟩, hS⟩⟩
        omega
      · rw [decide_eq_false hcp]
        rw [if_neg hcp] at hs2 hstep
        (conv => whnf)
        refine (take_ok c hc32 hl htl hcp h8 hS).mono ?_
        clear hS
        rintro v w' ⟨a2, c2, hS⟩
        have htt : (tellAll l X.told p).set c (verAt l c) = tellAll l X.told (p ++ [c]) := (tellAll_app l X.told p c).symm
        dsimp only at hS
        have hpl : p.length + 1 = (p ++ [c]).length := by simp
        rw [htt, hpl] at hS
        have htl2 := (tellAll_len l (p ++ [c]) X.told).trans ht
        have hp9 : (p ++ [c]).length ≤ 8 := by simp; omega
        unfold telH at hS
        (conv => whnf)
        have hcur2 : (encTel bT ⟨tellAll l X.told (p ++ [c]), c⟩)[33]? = some (.int .i64 (c : Int)) := tel_cur htl2
        (refine drawS tabOk mixed [4] (· = bx) [0, 1, 2, 3, 4, 5, 6, 7, 8, 9] (by kernel_rfl) ?_; rintro w1 rfl; replace hS := hS.drew)
        repeat' ((conv => whnf); first | refine RetC.mk ?_ | refine NzC.mk (by decide) ?_ | refine RngC.mk (by omega) (by omega) ?_ | refine IdxC.mk (by omega) (by omega) ?_ | refine hS.ldF 1 rfl rfl h10 ?_ | refine hS.ld 0 rfl hcur2 ?_ | refine KeepC.mk (Ext.refl _ _) ?_ | refine brD (fun _ => ?_) (fun _ => ?_) | refine brND (fun _ => ?_) (fun _ => ?_) | refine brN (fun _ => ?_) (fun _ => ?_) | refine brI (fun _ => ?_) (fun _ => ?_))
        refine hS.stX 0 rfl (by rw [tel_len htl2]; simp [cellsL]) rfl (fun w2 hx2 hS => ?_)
        refine KeepC.mk hx2 ?_
        have hmv : over (encTel bT ⟨tellAll l X.told (p ++ [c]), c⟩) (0 + 33) (cellsL (.int .i64 (((c : Int) + 1).tmod 32))) = encTel bT ⟨tellAll l X.told (p ++ [c]), (c + 1) % 32⟩ := tel_move htl2 (by rw [Int.tmod_eq_emod_of_nonneg (by omega)]; omega)
        replace hS : St w (· = bx) w2 (telH bT bx b1 b3 b4 b5 r ⟨tellAll l X.told (p ++ [c]), (c + 1) % 32⟩ (.slice al 32 cl) (.slice a2 (p ++ [c]).length c2) l (p ++ [c])) := by
          unfold telH
          rw [← hmv]
          exact hS
        (conv => whnf)
        refine LoopE.mk ⟨_, [(6, _), (5, _), (4, _), (3, _), (1, _)], ?_, ⟨rfl, rfl, rfl, rfl, rfl, trivial⟩, ⟨j + 1, (c + 1) % 32, (p ++ [c]), _, rfl, rfl, hp9, Nat.mod_lt _ (by omega), hstep, hs2, ⟨a2, c2, rfl⟩, hS⟩⟩
        omega
    · have h8 : ¬ p.length < 8 := by omega
      rw [stage2_done h8] at hs2
      subst hs2
      rw [show X.picks l = p from hpk] at hnx ⊢
      rw [hnx]
      (conv => whnf)
      refine hS.ld 6 rfl rfl ?_
      repeat' ((conv => whnf); first | refine RetC.mk ?_ | refine NzC.mk (by decide) ?_ | refine RngC.mk (by omega) (by omega) ?_ | refine IdxC.mk (by omega) (by omega) ?_ | refine brD (fun _ => ?_) (fun _ => ?_) | refine brND (fun _ => ?_) (fun _ => ?_) | refine brN (fun _ => ?_) (fun _ => ?_) | refine brI (fun _ => ?_) (fun _ => ?_))
      refine ⟨⟨a', c', rfl⟩, hS.ext, hS.blk 0 rfl, hS.get 7 rfl, fun g hg => ?_⟩
      obtain ⟨h1, h2⟩ := hS.may _ (List.mem_of_getElem? (i := 7) rfl) g (by simpa [ownL, own] using hg)
      refine ⟨h1.resolve_left ?_, h2⟩
      rintro rfl
      exact hS.ownBNe 0 7 rfl rfl (by decide) hg
def lagK (l : List CellS) (t : List Int) (k : Nat) : Nat := ((List.range k).filter (lagB l t)).length
theorem lagK_le (l : List CellS) (t : List Int) (k : Nat) : lagK l t k ≤ k := by
  unfold lagK
  refine Nat.le_trans (List.length_filter_le _ _) ?_
  simp
theorem lagK_succ (l : List CellS) (t : List Int) (k : Nat) : lagK l t (k + 1) = lagK l t k + (if lagB l t k = true then 1 else 0) := by
  unfold lagK
  rw [List.range_succ, List.filter_append, List.length_append]
  cases h : lagB l t k <;> simp [h]
theorem tlLag_ok (hX : Blk w bx 103 (encTel bT X)) (hT : Blk w bT 100 (encM T)) (hl : T.cells.length = 32) (ht : X.told.length = 32) :
    CallC Tryd.prog 23 #[.pointer (some ⟨bx, 0, none⟩)] w fun v w' => v = .int .i64 (lag T.cells X.told : Nat) ∧ Ext No w w' := by
  generalize hL : T.cells = l at hl ⊢
  refine fn_intro tabOk Tryd.func23 (by kernel_rfl) rfl Tryd.ntmps23 (Nat.le_of_ble_eq_true rfl) ?_
  have hS := St.start w No
  (conv => whnf)
  refine hS.ldr (hX.cell 0) id ?_
  (conv => whnf)
  refine (tcells_ok (hS.ext.blk hT id) (by rw [hL]; exact hl)).mono ?_
  rintro v w' ⟨al, cl, rfl, hx', ho, hf⟩
  rw [hL] at ho
  replace hS := hS.madeL hx' ho hf
  clear hx' ho hf
  (conv => whnf)
  refine loopR tabOk (fun σ w' q => ∃ k : Nat, σ = [(12, .int .i64 k), (11, .int .i64 (32 : Nat)), (10, .slice al 32 cl), (3, .int .i64 (lagK l X.told k : Nat)), (0, .pointer (some ⟨bx, 0, none⟩))] ∧ q = 32 - k ∧ k ≤ 32 ∧ St w No w' [ownL 55 10 encCell (.slice al 32 cl) l])
    (σ' := [(12, .int .i64 ((0 : Nat) : Int)), (11, .int .i64 (32 : Nat)), (10, .slice al 32 cl), (3, .int .i64 ((0 : Nat) : Int)), (0, .pointer (some ⟨bx, 0, none⟩))]) (n := 32) ⟨rfl, rfl, rfl, rfl, rfl, trivial⟩ ⟨0, rfl, rfl, Nat.zero_le _, hS⟩ ?_
  clear hS
  rintro _ w1 q ⟨k, rfl, rfl, hk, hS⟩
  have hlk := lagK_le l X.told k
  have hls := lagK_succ l X.told k
  (conv => whnf)
  refine brD (fun h3 => ?_) (fun h3 => ?_)
  · have hk : k < 32 := by omega
    obtain ⟨x, hx⟩ : ∃ x, l[k]? = some x := ⟨_, List.getElem?_eq_getElem (by omega)⟩
    obtain ⟨u, hu⟩ : ∃ u, X.told[k]? = some u := ⟨_, List.getElem?_eq_getElem (by omega)⟩
    have hver := verAt_of hx
    have htd := toldAt_of hu
    have hlb : lagB l X.told k = decide (x.ver ≠ u) := by unfold lagB; rw [hver, htd]
    obtain ⟨bl, ol, x', hx', _, rfl, _, hcx⟩ := (ownL_slc (G := fun _ => True) codCell (hS.get 0 rfl) fun _ _ => trivial).at hk
    obtain rfl := Option.some.inj (hx'.symm.trans hx)
    (conv => whnf)
    refine IdxC.mk (by omega) (by omega) ?_
    (conv => whnf)
    refine lac (l := encCell x') rfl hcx ?_
    (conv => whnf)
    refine hS.new (fun b5 w' _ hS => ?_)
    (conv => whnf)
    refine hS.st 1 rfl (Nat.le_of_ble_eq_true rfl) rfl (fun w' hS => ?_)
    have hd := tel_told (bT := bT) hu
    repeat' ((conv => whnf); first | refine RetC.mk ?_ | refine NzC.mk (by decide) ?_ | refine RngC.mk (by omega) (by omega) ?_ | refine IdxC.mk (by omega) (by omega) ?_ | (refine drawS tabOk mixed [] No [0, 1, 2, 3, 4, 5, 6, 7, 8] (by kernel_rfl) ?_; rintro w1 rfl; replace hS := hS.drew) | refine hS.ldF 1 rfl rfl id ?_ | refine IdxC.mk (by omega) (by omega) ?_ | refine hS.ldrF (o := 0 + 1 + Int.toNat (k : Int) * 1) (v := .int .i64 u) (by rw [hX.cell, ← hd]; congr 1; simp) id id ?_ | refine brD (fun _ => ?_) (fun _ => ?_) | refine brND (fun _ => ?_) (fun _ => ?_) | refine brN (fun _ => ?_) (fun _ => ?_) | refine brI (fun _ => ?_) (fun _ => ?_))
    · rename_i h1
      rw [if_pos (by rw [hlb]; exact decide_eq_true h1)] at hls
      refine LoopE.mk ⟨_, [(12, .int .i64 ((k + 1 : Nat) : Int)), (11, _), (10, _), (3, .int .i64 (lagK l X.told (k + 1) : Nat)), (0, _)], ?_, ⟨rfl, rfl, rfl, by rw [hls]; rfl, rfl, trivial⟩, ⟨k + 1, rfl, rfl, by omega, hS.keep 1⟩⟩
      omega
    · rename_i h1
      rw [if_neg (by rw [hlb]; simpa using h1)] at hls
      refine LoopE.mk ⟨_, [(12, .int .i64 ((k + 1 : Nat) : Int)), (11, _), (10, _), (3, .int .i64 (lagK l X.told (k + 1) : Nat)), (0, _)], ?_, ⟨rfl, rfl, rfl, by rw [hls]; rfl, rfl, trivial⟩, ⟨k + 1, rfl, rfl, by omega, hS.keep 1⟩⟩
      omega
  · obtain rfl : k = 32 := by omega
    repeat' ((conv => whnf); first | refine RetC.mk ?_ | refine NzC.mk (by decide) ?_ | refine RngC.mk (by omega) (by omega) ?_ | refine IdxC.mk (by omega) (by omega) ?_ | refine brD (fun _ => ?_) (fun _ => ?_) | refine brND (fun _ => ?_) (fun _ => ?_) | refine brN (fun _ => ?_) (fun _ => ?_) | refine brI (fun _ => ?_) (fun _ => ?_))
    exact ⟨rfl, hS.ext⟩
end
end Go.Proofs.YteakdmngllfodaaDoor
