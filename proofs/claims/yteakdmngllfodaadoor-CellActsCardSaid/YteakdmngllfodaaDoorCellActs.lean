
/-
  CellActs returns true whatever its arguments.
-/
import Derived.Test.YteakdmngllfodaaDoorCellCuts
import Derived.Test.YteakdmngllfodaaDoorRefCell
import Derived.Test.YteakdmngllfodaaDoorEvO
namespace Go.Proofs.YteakdmngllfodaaDoor
open Go Ev

theorem put_code (C : CelS) (B : BytS) (e l : Int) : (C.put B e l).1 < 12 := by
  unfold CelS.put
  repeat' split
  all_goals dsimp only
  all_goals omega
theorem put_num (C : CelS) (B : BytS) (e l : Int) (h : C.num < 4294967296) : (C.put B e l).2.2.num < 4294967296 := by
  unfold CelS.put
  repeat' split
  all_goals dsimp only
  all_goals omega
theorem put_ok (C : CelS) (B : BytS) (e l : Int) (h : BOk B) : BOk (C.put B e l).2.1 := by
  unfold CelS.put
  repeat' split
  all_goals first | exact h | exact h.cwrite _ _ _
theorem cut_ok {B : BytS} (h : BOk B) (k : Int) (hk : I64 k) : BOk (if k < 0 ∨ B.off = true then B else ⟨B.data, B.off, k⟩) := by
  split
  · exact h
  · exact ⟨h.len, by dsimp only; omega, hk.2⟩
theorem cut_alike {R : RBy} {B : BytS} (h : Alike R B) (k : Int) : Alike (if k < 0 ∨ R.off = true then R else ⟨R.data, R.off, k, true⟩) (if k < 0 ∨ B.off = true then B else ⟨B.data, B.off, k⟩) := by
  rw [h.off]
  split
  · exact h
  · exact ⟨h.data, rfl, fun _ => ⟨rfl, by dsimp only; omega⟩, fun h => absurd h (by simp)⟩
theorem cut_rok {R : RBy} {n : Nat} (h : ROk R n) (k : Int) (hk : I64 k) : ROk (if k < 0 ∨ R.off = true then R else ⟨R.data, R.off, k, true⟩) n := by
  split
  · exact h
  · exact ⟨h.len, fun _ => by dsimp only; omega, by dsimp only; omega, hk.2⟩
theorem on_alike {R : RBy} {B : BytS} (h : Alike R B) : Alike ⟨R.data, false, R.left, false⟩ ⟨B.data, false, -1⟩ := ⟨h.data, rfl, fun h => absurd h (by simp), fun _ => rfl⟩

theorem Ev.mkBytes {w : World} {kl kc : IntKind} {k : Value → World → Prop} (n : Nat) (hn : n ≤ 1000) (hk : ∀ b w', Ext No w w' → ((ownL 5 1 encU (.slice (some ⟨b, 0, none⟩) n n) (List.replicate n 0)).holds w' ∧ ∀ c ∈ (ownL 5 1 encU (.slice (some ⟨b, 0, none⟩) n n) (List.replicate n 0)).foot, w.heap.size ≤ c ∧ c < w'.heap.size) → k (.slice (some ⟨b, 0, none⟩) n n) w') :
    RunC Tryd.prog (Instr.makeSlice 87 (.int kl (n : Int)) (.int kc (n : Int))) w k := by
  refine (St.start w No).mkSlice (n := n) Tryd.underlying87 (sz := 1) (bytes := 1) (by kernel_rfl) (z := .int .u8 0) (by kernel_rfl) (by omega) (by omega) (by unfold maxLen; omega) (enc := encU) (xs := List.replicate n 0) (by simp) (by rw [show (Value.int .u8 0).cells = #[.int .u8 0] from rfl, made_rep, Nat.mul_one]; exact rep_flat n) (fun g w' hg hS => ?_)
  refine hk g w' hS.ext ⟨hS.get 0 rfl, fun c hc => ?_⟩
  have := hS.may _ (List.mem_of_getElem? (i := 0) rfl) c hc
  exact ⟨this.1.resolve_left id, this.2⟩
theorem cellActs_ok {E : Nat → Addr} (W : World) (hE : Errs W E W.heap.size allErrs) (hh : Handle W) (s : List UInt8) (a0 : Option Addr) (n0 c0 : Nat) (puts : List PutS) (hx : Slc W 5 encP PutS.Ok a0 n0 puts) :
    CallC Tryd.prog 8 #[.string (bs s), .slice a0 n0 c0] W fun v w' => v = .bool true ∧ Ext No W w' := by
  have hm0 := hx.max
  have hm0c : True := trivial
  refine fn_intro tabOk Tryd.func8 (by kernel_rfl) rfl Tryd.ntmps8 (Nat.le_of_ble_eq_true rfl) ?_
  have hS := St.start W No
  (conv => whnf)
  refine (kept_ok _ (hE.sub rfl) (Nat.le_refl _)).mono ?_
  rintro v w' ⟨rfl, hx'⟩
  replace hS := hS.no hx'
  clear hx'
  (conv => whnf)
  rw [bs_size]
  refine brD (fun h1 => ?_) (fun h1 => ?_)
  · repeat' ((conv => whnf); first | refine RetC.mk ?_ | refine NzC.mk (by decide) ?_ | refine RngC.mk (by omega) (by omega) ?_ | refine IdxC.mk (by omega) (by omega) ?_ | refine brD (fun _ => ?_) (fun _ => ?_) | refine brND (fun _ => ?_) (fun _ => ?_) | refine brN (fun _ => ?_) (fun _ => ?_) | refine brI (fun _ => ?_) (fun _ => ?_))
    exact ⟨rfl, hS.ext⟩
  (conv => whnf)
  refine brD (fun h2 => ?_) (fun h2 => ?_)
  · repeat' ((conv => whnf); first | refine RetC.mk ?_ | refine NzC.mk (by decide) ?_ | refine RngC.mk (by omega) (by omega) ?_ | refine IdxC.mk (by omega) (by omega) ?_ | refine brD (fun _ => ?_) (fun _ => ?_) | refine brND (fun _ => ?_) (fun _ => ?_) | refine brN (fun _ => ?_) (fun _ => ?_) | refine brI (fun _ => ?_) (fun _ => ?_))
    exact ⟨rfl, hS.ext⟩
  (conv => whnf)
  refine (copen_nil _ ((hE.sub rfl).ext hS.ext fun _ h => h.elim)).mono ?_
  rintro v w' ⟨rfl, hx'⟩
  replace hS := hS.no hx'
  clear hx'
  (conv => whnf)
  refine (coded2_same 3 (by decide) _ (hE.ext hS.ext fun _ h => h.elim) (hh.ext hS.ext)).mono ?_
  rintro v w' ⟨rfl, hx'⟩
  replace hS := hS.no hx'
  clear hx'
  (conv => whnf)
  refine (newBytes_ok _).mono ?_
  rintro v w' ⟨b, rfl, hb, hx', hB⟩
  replace hS := hS.made hx' (blk_local _ _ _) hB (by simp [blk]; exact ⟨hb, hB.lt⟩)
  have fb := hS.fresh 0 rfl
  clear hx' hB hb
  (conv => whnf)
  refine DrawC.cut (fun σ w => σ = [(53, .bool false), (8, .pointer (some ⟨b, 0, none⟩)), (1, .slice a0 n0 c0), (0, .string (bs s))] ∧ St W No w [blk b 124 (encBy by0)]) ?_ ?_
  · refine drawT tabOk mixed [] (No) (.take 0 (.take 1 (.take 2 (.take 3 (.alt 4 (.alt 5 (.alt 6 (.take 7 (.take 8 .fin)) .fin) .fin) (.alt 5 (.alt 4 (.alt 6 (.take 7 (.take 8 .fin)) .fin) (.alt 6 (.alt 4 (.take 7 (.take 8 .fin)) .fin) .fin)) .fin)))))) (by kernel_rfl) ?_
    rintro w1 rfl
    replace hS := hS.drew
    have hK := Ext.refl No { w' with drawn := w'.drawn + 1 }
    repeat' ((conv => whnf); first | refine And.intro ?_ ?_       | (refine (ball_ok (hS.blk 0 rfl) by0_ok.len).mono ?_; rintro v w' ⟨rfl, hx'⟩; replace hS := hS.no hx'; replace hK := hK.trans hx'; clear hx'; refine KeepC.mk hK ?_)       | (refine Ev.mkBytes 64 (by decide) (fun g w' hx' hg => ?_); replace hS := hS.made hx' ownL_local hg.1 hg.2; replace hK := hK.trans hx'; clear hx' hg; refine KeepC.mk hK ?_)       | (refine strC Tryd.underlying87 Tryd.underlying5 Tryd.underlying9 (own_cells codU (hS.get 1 rfl)) (by simp) ?_; refine KeepC.mk hK ?_) | refine neS2 ?_)
    all_goals rw [show (!decide (by0.data = List.replicate 64 0)) = false by simp [by0]]
    all_goals exact CutE.mk ⟨[(53, .bool false), (8, _), (1, _), (0, _)], ⟨rfl, rfl, rfl, rfl, trivial⟩, rfl, hS.keep 1⟩
  clear hS
  rintro _ w ⟨rfl, hS⟩
  (conv => whnf)
  rw [bs_size]
  refine brND (fun h3 => ?_) (fun h3 => ?_)
  · (conv => whnf)
    refine (blay_ok s (hS.blk 0 rfl) (by simp [by0]) ((hE.sub rfl).ext hS.ext fun _ h => h.elim) fb).mono ?_
    rw [if_neg (show ¬ s.length = 64 by omega), if_neg (show ¬ s.length = 64 by omega)]
    rintro v w' ⟨rfl, hx', hB⟩
    replace hS := hS.upd 0 rfl hx' (fun c hc => by subst hc; exact List.mem_singleton.2 rfl) (blk_local _ _ _) hB (fun c hc => .inl hc)
    (conv => whnf)
    refine (coded2_same 3 (by decide) _ (hE.ext hS.ext fun _ h => h.elim) (hh.ext hS.ext)).mono ?_
    rintro v w' ⟨rfl, hx'⟩
    replace hS := hS.no hx'
    clear hx'
    repeat' ((conv => whnf); first | refine RetC.mk ?_ | refine NzC.mk (by decide) ?_ | refine RngC.mk (by omega) (by omega) ?_ | refine IdxC.mk (by omega) (by omega) ?_ | refine brD (fun _ => ?_) (fun _ => ?_) | refine brND (fun _ => ?_) (fun _ => ?_) | refine brN (fun _ => ?_) (fun _ => ?_) | refine brI (fun _ => ?_) (fun _ => ?_))
    exact ⟨rfl, hS.ext⟩
  have h64 : s.length = 64 := by omega
  (conv => whnf)
  refine (blay_ok s (hS.blk 0 rfl) (by simp [by0]) ((hE.sub rfl).ext hS.ext fun _ h => h.elim) fb).mono ?_
  rw [if_pos h64, if_pos h64]
  rintro v w' ⟨rfl, hx', hB⟩
  replace hS := hS.upd 0 rfl hx' (fun c hc => by subst hc; exact List.mem_singleton.2 rfl) (blk_local _ _ _) hB (fun c hc => .inl hc)
  clear hx' hB
  (conv => whnf)
  refine (ball_ok (hS.blk 0 rfl) (by exact h64)).mono ?_
  rintro v w' ⟨rfl, hx'⟩
  replace hS := hS.no hx'
  clear hx'
  (conv => whnf)
  refine neS2 ?_
  (conv => whnf)
  refine brND (fun h => absurd rfl h) (fun _ => ?_)
  (conv => whnf)
  refine hS.new (fun n w' hn hS => ?_)
  (conv => whnf)
  refine (copen_ok (hS.blk 0 rfl) (by exact h64) rfl).mono ?_
  rintro v w' ⟨c, rfl, hc, hx', hB⟩
  replace hS := hS.made hx' (blk_local _ _ _) hB (by simp [blk]; exact ⟨hc, hB.lt⟩)
  have fc := hS.fresh 2 rfl
  clear hx' hB hc
  (conv => whnf)
  refine (ropen_ok (R := ⟨s, false, 0, false⟩) (hS.blk 1 rfl) (by exact h64)).mono ?_
  rintro v w' ⟨m, rfl, hm, hx', hB⟩
  replace hS := hS.made hx' (blk_local _ _ _) hB (by simp [blk]; exact ⟨hm, hB.lt⟩)
  clear hx' hB hm
  (conv => whnf)
  refine loopR tabOk (fun σ w q => ∃ (i c m : Nat) (B : BytS) (R : RBy) (C : CelS), σ = [(13, .int .i64 i), (12, .pointer (some ⟨m, 0, none⟩)), (10, .pointer (some ⟨c, 0, none⟩)), (9, .pointer (some ⟨n, 0, none⟩)), (8, .pointer (some ⟨b, 0, none⟩)), (1, .slice a0 n0 c0)] ∧ q = n0 - i ∧ i ≤ n0 ∧ St W No w [blk b 124 (encBy B), blk n 91 (encRB R), blk c 126 (encCl b C), blk m 96 (encCl n C)] ∧ BOk B ∧ Alike R B ∧ ROk R (18 * i) ∧ C.num < 4294967296 ∧ W.heap.size ≤ c)
    (σ' := [(13, .int .i64 ((0 : Nat) : Int)), (12, .pointer (some ⟨m, 0, none⟩)), (10, .pointer (some ⟨c, 0, none⟩)), (9, .pointer (some ⟨n, 0, none⟩)), (8, .pointer (some ⟨b, 0, none⟩)), (1, .slice a0 n0 c0)]) (n := n0) ⟨rfl, rfl, rfl, rfl, rfl, rfl, trivial⟩ ⟨0, c, m, ⟨s, false, -1⟩, ⟨s, false, 0, false⟩, openS s, rfl, rfl, Nat.zero_le _, hS, ⟨h64, by dsimp only; omega, by dsimp only; omega⟩, ⟨rfl, rfl, fun h => absurd h (by simp), fun _ => rfl⟩, ⟨h64, fun h => absurd h (by simp), by simp, by simp⟩, (openN_lt s 2).1, fc⟩ ?_
  clear hS fc hn
  clear c m
  rintro _ w q ⟨i, c, m, B, R, C, rfl, rfl, hi, hS, hO, hA, hR, hN, fc⟩
  (conv => whnf)
  refine brD (fun h4 => ?_) (fun h4 => ?_)
  · obtain ⟨b0, o0, a, _, hok, rfl, hb0, hc⟩ := hx.at (k := i) (by omega)
    (conv => whnf)
    refine IdxC.mk (by omega) (by omega) ?_
    (conv => whnf)
    refine hS.lar (l := encP a) rfl hc id ?_
    (conv => whnf)
    refine hS.new (fun ba w' hba hS => ?_)
    (conv => whnf)
    refine hS.st 4 rfl (Nat.le_of_ble_eq_true rfl) rfl (fun w' hS => ?_)
    replace hS : St W No w' [blk b 124 (encBy B), blk n 91 (encRB R), blk ba 83 (encP a), blk c 126 (encCl b C), blk m 96 (encCl n C)] := hS.sel [0, 1, 4, 2, 3] (by decide)
    have nt : ¬ (ba = b ∨ ba = c ∨ ba = n ∨ ba = m) := by
      have e1 := hS.ne 2 0 rfl rfl (by decide)
      have e2 := hS.ne 2 1 rfl rfl (by decide)
      have e3 := hS.ne 2 3 rfl rfl (by decide)
      have e4 := hS.ne 2 4 rfl rfl (by decide)
      omega
    have nt2 : ¬ (ba = b ∨ ba = n) := by omega
    clear hba hc
    (conv => whnf)
    refine hS.ld 2 rfl rfl ?_
    cases hof : a.off
    · skip
      (conv => whnf)
      refine hS.ld 2 rfl rfl ?_
      cases hon : a.on
      · skip
        (conv => whnf)
        refine hS.ld 2 rfl rfl ?_
        (conv => whnf)
        refine brD (fun h7 => ?_) (fun h7 => ?_)
        · (conv => whnf)
          have hO1 := cut_ok hO a.cut hok.2.2
          have hA1 := cut_alike hA a.cut
          have hR1 := cut_rok hR a.cut hok.2.2
          (refine drawS tabOk mixed [] (fun d => d = b ∨ d = n) [0, 1, 2, 4, 5, 6, 3, 7, 8, 9] (by kernel_rfl) ?_; rintro w1 rfl; replace hS := hS.drew)
          (conv => whnf)
          refine hS.ldF 2 rfl rfl nt2 ?_
          (conv => whnf)
          refine hS.ldF 2 rfl rfl nt2 ?_
          (conv => whnf)
          refine (bcut_ok a.cut (hS.blk 0 rfl) hO.len ((hE.sub rfl).ext hS.ext fun _ h => h.elim) fb).mono ?_
          rintro v w1 ⟨rfl, hx1, hB1⟩
          replace hS := hS.upd 0 rfl hx1 (fun c hc => by subst hc; exact List.mem_singleton.2 rfl) (blk_local _ _ _) hB1 (fun c hc => .inl hc)
          refine KeepC.mk (hx1.mono fun d h => .inl h) ?_
          (conv => whnf)
          refine (rbcut_ok a.cut (hS.blk 1 rfl)).mono ?_
          rintro v w2 ⟨rfl, hx2, hB2⟩
          replace hS := hS.upd 1 rfl hx2 (fun c hc => by subst hc; exact List.mem_singleton.2 rfl) (blk_local _ _ _) hB2 (fun c hc => .inl hc)
          refine KeepC.mk ((hx1.mono fun d h => .inl h).trans (hx2.mono fun d h => .inr h)) ?_
          rw [hA.off]
          have hc12 : (if a.cut < 0 then 2 else if BytS.off B = true then 7 else 0 : Nat) < 12 := by split <;> (try split) <;> omega
          generalize (if a.cut < 0 then 2 else if BytS.off B = true then 7 else 0 : Nat) = code at hc12
          (conv => whnf)
          refine (coded2_same code hc12 _ (hE.ext hS.ext fun _ h => h.elim) (hh.ext hS.ext)).mono ?_
          rintro v w3 ⟨rfl, hx3⟩
          replace hS := hS.no hx3
          refine KeepC.mk (((hx1.mono fun d h => .inl h).trans (hx2.mono fun d h => .inr h)).trans hx3.of_no) ?_
          clear hx1 hx2 hx3 hB1 hB2
          (conv => whnf)
          generalize (if a.cut < 0 ∨ BytS.off B = true then B else ⟨BytS.data B, BytS.off B, a.cut⟩) = B3 at hS hO1 hA1
          generalize (if a.cut < 0 ∨ RBy.off R = true then R else ⟨RBy.data R, RBy.off R, a.cut, true⟩) = R3 at hS hA1 hR1
          (conv => whnf)
          refine DrawC.cut (fun σ w => ∃ (B2 : BytS) (R2 : RBy) (C2 : CelS), σ = [(185, .bool false), (13, .int .i64 i), (12, .pointer (some ⟨m, 0, none⟩)), (10, .pointer (some ⟨c, 0, none⟩)), (9, .pointer (some ⟨n, 0, none⟩)), (8, .pointer (some ⟨b, 0, none⟩)), (1, .slice (some ⟨b0, o0, none⟩) n0 c0)] ∧ BOk B2 ∧ Alike R2 B2 ∧ ROk R2 (18 * i + 18) ∧ C2.num < 4294967296 ∧ St W No w [blk n 91 (encRB R2), blk m 96 (encCl n C2), blk b 124 (encBy B2), blk c 126 (encCl b C2)]) ?_ ?_
          · skip
            refine drawT tabOk mixed [20, 29] (fun d => d = b ∨ d = c ∨ d = n ∨ d = m) (.take 0 (.take 1 (.take 2 (.take 3 (.take 4 (.take 6 (.take 7 (.take 8 (.take 9 (.take 10 (.alt 5 (.alt 11 (.alt 12 (.take 13 (.take 14 (.take 15 (.take 17 (.take 18 (.take 19 (.alt 16 (.alt 20 (.take 21 (.take 22 (.take 23 (.take 24 (.take 26 (.take 27 (.take 28 (.alt 25 (.alt 29 (.take 30 (.take 31 .fin)) .fin) (.alt 29 (.alt 25 (.take 30 (.take 31 .fin)) .fin) .fin))))))))) .fin) (.alt 20 (.alt 16 (.take 21 (.take 22 (.take 23 (.take 24 (.take 26 (.take 27 (.take 28 (.alt 25 (.alt 29 (.take 30 (.take 31 .fin)) .fin) (.alt 29 (.alt 25 (.take 30 (.take 31 .fin)) .fin) .fin))))))))) .fin) .fin)))))))) .fin) .fin) .fin))))))))))) (by kernel_rfl) ?_
            rintro w1 rfl
            replace hS := hS.drew
            (conv => whnf)
            refine hS.ldF 2 rfl rfl nt ?_
            (conv => whnf)
            refine hS.ldF 2 rfl rfl nt ?_
            (conv => whnf)
            refine hS.ldF 2 rfl rfl nt ?_
            (conv => whnf)
            refine hS.ldF 2 rfl rfl nt ?_
            (conv => whnf)
            refine (cput_ok a.ep a.li (hS.blk 3 rfl) (hS.blk 0 rfl) hO1 hN ((hE.sub rfl).ext hS.ext fun _ h => h.elim) fb fc).mono ?_
            rintro v w1 ⟨rfl, hx1, hB1, hC1⟩
            have hs0 := hS.sel [0, 3, 2, 1, 4] (by decide)
            replace hS : St W No w1 [blk b 124 (encBy (CelS.put C B3 a.ep a.li).2.1), blk c 126 (encCl b (CelS.put C B3 a.ep a.li).2.2), blk ba 83 (encP a), blk n 91 (encRB R3), blk m 96 (encCl n C)] := Ev.St.upd2 hs0 hx1 (by simp [blk]) (blk_local _ _ _) hB1 rfl (blk_local _ _ _) hC1 rfl
            have hy1 := hx1.mono (T := fun d => d = b ∨ d = c ∨ d = n ∨ d = m) (fun d h => h.elim .inl fun h => .inr (.inl h))
            refine KeepC.mk hy1 ?_
            (conv => whnf)
            refine (rcput_ok a.ep a.li (hS.blk 4 rfl) (hS.blk 3 rfl) hA1 hO1 hR1 (by omega) hN).mono ?_
            rintro v w2 ⟨rfl, hx2, R2, hA2, hR2, hB2, hC2⟩
            have hs0 := hS.sel [3, 4, 0, 1, 2] (by decide)
            replace hS : St W No w2 [blk n 91 (encRB R2), blk m 96 (encCl n (CelS.put C B3 a.ep a.li).2.2), blk b 124 (encBy (CelS.put C B3 a.ep a.li).2.1), blk c 126 (encCl b (CelS.put C B3 a.ep a.li).2.2), blk ba 83 (encP a)] := Ev.St.upd2 hs0 hx2 (by simp [blk]) (blk_local _ _ _) hB2 rfl (blk_local _ _ _) hC2 rfl
            have hy2 := hx2.mono (T := fun d => d = b ∨ d = c ∨ d = n ∨ d = m) (fun d h => h.elim (fun h => .inr (.inr (.inl h))) fun h => .inr (.inr (.inr h)))
            refine KeepC.mk (hy1.trans hy2) ?_
            have hcd := put_code C B3 a.ep a.li
            have hN2 := put_num C B3 a.ep a.li hN
            have hO2 := put_ok C B3 a.ep a.li hO1
            clear hB1 hC1 hB2 hC2 hs0
            generalize CelS.put C B3 a.ep a.li = Q at hS hcd hN2 hO2 hA2 ⊢
            obtain ⟨code, B2, C2⟩ := Q
            dsimp only at hS hcd hN2 hO2 hA2 ⊢
            (conv => whnf)
            refine (coded2_same code hcd _ (hE.ext hS.ext fun _ h => h.elim) (hh.ext hS.ext)).mono ?_
            rintro v w3 ⟨rfl, hx3⟩
            replace hS := hS.no hx3
            refine KeepC.mk ((hy1.trans hy2).trans hx3.of_no) ?_
            have hK := (hy1.trans hy2).trans (hx3.of_no (S := fun d => d = b ∨ d = c ∨ d = n ∨ d = m))
            clear hy1 hy2 hx1 hx2 hx3
            repeat' ((conv => whnf); first | refine And.intro ?_ ?_ | (refine hS.ld 1 rfl rfl ?_; refine KeepC.mk hK ?_) | (refine (cepoch_ok (hS.blk 3 rfl)).mono ?_; rintro v w' ⟨rfl, hx'⟩; replace hS := hS.no hx'; replace hK := hK.trans hx'.of_no; clear hx'; refine KeepC.mk hK ?_) | (refine (clife_ok (hS.blk 3 rfl)).mono ?_; rintro v w' ⟨rfl, hx'⟩; replace hS := hS.no hx'; replace hK := hK.trans hx'.of_no; clear hx'; refine KeepC.mk hK ?_) | refine brND (fun h => absurd rfl h) (fun _ => ?_))
            all_goals (conv => whnf)
            all_goals rw [show ((C2.li : Int) != (C2.li : Int)) = false by simp]
            all_goals exact CutE.mk ⟨[(185, .bool false), (13, _), (12, _), (10, _), (9, _), (8, _), (1, _)], ⟨rfl, rfl, rfl, rfl, rfl, rfl, rfl, trivial⟩, ⟨B2, R2, C2, rfl, hO2, hA2, hR2, hN2, hS.keep 4⟩⟩
          clear hS
          rintro _ w ⟨B2, R2, C2, rfl, hO2, hA2, hR2, hN2, hS⟩
          (conv => whnf)
          (refine drawS tabOk mixed [] (No) [0, 2, 3, 4, 5, 1, 6, 7, 8, 10, 11, 12, 13, 9, 14, 15] (by kernel_rfl) ?_; rintro w1 rfl; replace hS := hS.drew)
          (conv => whnf)
          refine hS.ldF 0 rfl rfl id ?_
          (conv => whnf)
          refine (ball_ok (hS.blk 2 rfl) hO2.len).mono ?_
          rintro v w6 ⟨rfl, hx6⟩
          have hS2 := hS.no hx6
          refine KeepC.mk hx6 ?_
          (conv => whnf)
          refine neS2 ?_
          rw [hA2.data]
          (conv => whnf)
          refine brND (fun h => absurd rfl h) (fun _ => ?_)
          (conv => whnf)
          refine hS.ldF 0 rfl rfl id ?_
          (conv => whnf)
          refine (bpower_ok (hS2.blk 2 rfl) hO2.len).mono ?_
          rintro v w7 ⟨rfl, hx7⟩
          replace hS := hS2.no hx7
          refine KeepC.mk (hx6.trans hx7) ?_
          clear hS2 hx6 hx7
          rw [hA2.off]
          (conv => whnf)
          rw [show ((!B2.off) == B2.off) = false by cases B2.off <;> rfl]
          (conv => whnf)
          refine RngC.mk (by omega) (by omega) ?_
          (conv => whnf)
          refine LoopE.mk ⟨_, [(13, .int .i64 ((i + 1 : Nat) : Int)), (12, _), (10, _), (9, _), (8, _), (1, _)], ?_, ⟨rfl, rfl, rfl, rfl, rfl, rfl, trivial⟩, ⟨i + 1, c, m, B2, R2, C2, rfl, rfl, by omega, hS.sel [2, 0, 3, 1] (by decide), hO2, hA2, hR2.le (by omega), hN2, fc⟩⟩
          omega
        · (conv => whnf)
          refine hS.ld 2 rfl rfl ?_
          (conv => whnf)
          refine brD (fun h8 => ?_) (fun h8 => ?_)
          · (conv => whnf)
            have hO1 := cut_ok hO a.cut hok.2.2
            have hA1 := cut_alike hA a.cut
            have hR1 := cut_rok hR a.cut hok.2.2
            (refine drawS tabOk mixed [] (fun d => d = b ∨ d = n) [0, 1, 2, 4, 5, 6, 3, 7, 8, 9] (by kernel_rfl) ?_; rintro w1 rfl; replace hS := hS.drew)
            (conv => whnf)
            refine hS.ldF 2 rfl rfl nt2 ?_
            (conv => whnf)
            refine hS.ldF 2 rfl rfl nt2 ?_
            (conv => whnf)
            refine (bcut_ok a.cut (hS.blk 0 rfl) hO.len ((hE.sub rfl).ext hS.ext fun _ h => h.elim) fb).mono ?_
            rintro v w1 ⟨rfl, hx1, hB1⟩
            replace hS := hS.upd 0 rfl hx1 (fun c hc => by subst hc; exact List.mem_singleton.2 rfl) (blk_local _ _ _) hB1 (fun c hc => .inl hc)
            refine KeepC.mk (hx1.mono fun d h => .inl h) ?_
            (conv => whnf)
            refine (rbcut_ok a.cut (hS.blk 1 rfl)).mono ?_
            rintro v w2 ⟨rfl, hx2, hB2⟩
            replace hS := hS.upd 1 rfl hx2 (fun c hc => by subst hc; exact List.mem_singleton.2 rfl) (blk_local _ _ _) hB2 (fun c hc => .inl hc)
            refine KeepC.mk ((hx1.mono fun d h => .inl h).trans (hx2.mono fun d h => .inr h)) ?_
            rw [hA.off]
            have hc12 : (if a.cut < 0 then 2 else if BytS.off B = true then 7 else 0 : Nat) < 12 := by split <;> (try split) <;> omega
            generalize (if a.cut < 0 then 2 else if BytS.off B = true then 7 else 0 : Nat) = code at hc12
            (conv => whnf)
            refine (coded2_same code hc12 _ (hE.ext hS.ext fun _ h => h.elim) (hh.ext hS.ext)).mono ?_
            rintro v w3 ⟨rfl, hx3⟩
            replace hS := hS.no hx3
            refine KeepC.mk (((hx1.mono fun d h => .inl h).trans (hx2.mono fun d h => .inr h)).trans hx3.of_no) ?_
            clear hx1 hx2 hx3 hB1 hB2
            (conv => whnf)
            generalize (if a.cut < 0 ∨ BytS.off B = true then B else ⟨BytS.data B, BytS.off B, a.cut⟩) = B3 at hS hO1 hA1
            generalize (if a.cut < 0 ∨ RBy.off R = true then R else ⟨RBy.data R, RBy.off R, a.cut, true⟩) = R3 at hS hA1 hR1
            (conv => whnf)
            refine DrawC.cut (fun σ w => ∃ (B2 : BytS) (R2 : RBy) (C2 : CelS), σ = [(185, .bool false), (13, .int .i64 i), (12, .pointer (some ⟨m, 0, none⟩)), (10, .pointer (some ⟨c, 0, none⟩)), (9, .pointer (some ⟨n, 0, none⟩)), (8, .pointer (some ⟨b, 0, none⟩)), (1, .slice (some ⟨b0, o0, none⟩) n0 c0)] ∧ BOk B2 ∧ Alike R2 B2 ∧ ROk R2 (18 * i + 18) ∧ C2.num < 4294967296 ∧ St W No w [blk n 91 (encRB R2), blk m 96 (encCl n C2), blk b 124 (encBy B2), blk c 126 (encCl b C2)]) ?_ ?_
            · skip
              refine drawT tabOk mixed [20, 29] (fun d => d = b ∨ d = c ∨ d = n ∨ d = m) (.take 0 (.take 1 (.take 2 (.take 3 (.take 4 (.take 6 (.take 7 (.take 8 (.take 9 (.take 10 (.alt 5 (.alt 11 (.alt 12 (.take 13 (.take 14 (.take 15 (.take 17 (.take 18 (.take 19 (.alt 16 (.alt 20 (.take 21 (.take 22 (.take 23 (.take 24 (.take 26 (.take 27 (.take 28 (.alt 25 (.alt 29 (.take 30 (.take 31 .fin)) .fin) (.alt 29 (.alt 25 (.take 30 (.take 31 .fin)) .fin) .fin))))))))) .fin) (.alt 20 (.alt 16 (.take 21 (.take 22 (.take 23 (.take 24 (.take 26 (.take 27 (.take 28 (.alt 25 (.alt 29 (.take 30 (.take 31 .fin)) .fin) (.alt 29 (.alt 25 (.take 30 (.take 31 .fin)) .fin) .fin))))))))) .fin) .fin)))))))) .fin) .fin) .fin))))))))))) (by kernel_rfl) ?_
              rintro w1 rfl
              replace hS := hS.drew
              (conv => whnf)
              refine hS.ldF 2 rfl rfl nt ?_
              (conv => whnf)
              refine hS.ldF 2 rfl rfl nt ?_
              (conv => whnf)
              refine hS.ldF 2 rfl rfl nt ?_
              (conv => whnf)
              refine hS.ldF 2 rfl rfl nt ?_
              (conv => whnf)
              refine (cput_ok a.ep a.li (hS.blk 3 rfl) (hS.blk 0 rfl) hO1 hN ((hE.sub rfl).ext hS.ext fun _ h => h.elim) fb fc).mono ?_
              rintro v w1 ⟨rfl, hx1, hB1, hC1⟩
              have hs0 := hS.sel [0, 3, 2, 1, 4] (by decide)
              replace hS : St W No w1 [blk b 124 (encBy (CelS.put C B3 a.ep a.li).2.1), blk c 126 (encCl b (CelS.put C B3 a.ep a.li).2.2), blk ba 83 (encP a), blk n 91 (encRB R3), blk m 96 (encCl n C)] := Ev.St.upd2 hs0 hx1 (by simp [blk]) (blk_local _ _ _) hB1 rfl (blk_local _ _ _) hC1 rfl
              have hy1 := hx1.mono (T := fun d => d = b ∨ d = c ∨ d = n ∨ d = m) (fun d h => h.elim .inl fun h => .inr (.inl h))
              refine KeepC.mk hy1 ?_
              (conv => whnf)
              refine (rcput_ok a.ep a.li (hS.blk 4 rfl) (hS.blk 3 rfl) hA1 hO1 hR1 (by omega) hN).mono ?_
              rintro v w2 ⟨rfl, hx2, R2, hA2, hR2, hB2, hC2⟩
              have hs0 := hS.sel [3, 4, 0, 1, 2] (by decide)
              replace hS : St W No w2 [blk n 91 (encRB R2), blk m 96 (encCl n (CelS.put C B3 a.ep a.li).2.2), blk b 124 (encBy (CelS.put C B3 a.ep a.li).2.1), blk c 126 (encCl b (CelS.put C B3 a.ep a.li).2.2), blk ba 83 (encP a)] := Ev.St.upd2 hs0 hx2 (by simp [blk]) (blk_local _ _ _) hB2 rfl (blk_local _ _ _) hC2 rfl
              have hy2 := hx2.mono (T := fun d => d = b ∨ d = c ∨ d = n ∨ d = m) (fun d h => h.elim (fun h => .inr (.inr (.inl h))) fun h => .inr (.inr (.inr h)))
              refine KeepC.mk (hy1.trans hy2) ?_
              have hcd := put_code C B3 a.ep a.li
              have hN2 := put_num C B3 a.ep a.li hN
              have hO2 := put_ok C B3 a.ep a.li hO1
              clear hB1 hC1 hB2 hC2 hs0
              generalize CelS.put C B3 a.ep a.li = Q at hS hcd hN2 hO2 hA2 ⊢
              obtain ⟨code, B2, C2⟩ := Q
              dsimp only at hS hcd hN2 hO2 hA2 ⊢
              (conv => whnf)
              refine (coded2_same code hcd _ (hE.ext hS.ext fun _ h => h.elim) (hh.ext hS.ext)).mono ?_
              rintro v w3 ⟨rfl, hx3⟩
              replace hS := hS.no hx3
              refine KeepC.mk ((hy1.trans hy2).trans hx3.of_no) ?_
              have hK := (hy1.trans hy2).trans (hx3.of_no (S := fun d => d = b ∨ d = c ∨ d = n ∨ d = m))
              clear hy1 hy2 hx1 hx2 hx3
              repeat' ((conv => whnf); first | refine And.intro ?_ ?_ | (refine hS.ld 1 rfl rfl ?_; refine KeepC.mk hK ?_) | (refine (cepoch_ok (hS.blk 3 rfl)).mono ?_; rintro v w' ⟨rfl, hx'⟩; replace hS := hS.no hx'; replace hK := hK.trans hx'.of_no; clear hx'; refine KeepC.mk hK ?_) | (refine (clife_ok (hS.blk 3 rfl)).mono ?_; rintro v w' ⟨rfl, hx'⟩; replace hS := hS.no hx'; replace hK := hK.trans hx'.of_no; clear hx'; refine KeepC.mk hK ?_) | refine brND (fun h => absurd rfl h) (fun _ => ?_))
              all_goals (conv => whnf)
              all_goals rw [show ((C2.li : Int) != (C2.li : Int)) = false by simp]
              all_goals exact CutE.mk ⟨[(185, .bool false), (13, _), (12, _), (10, _), (9, _), (8, _), (1, _)], ⟨rfl, rfl, rfl, rfl, rfl, rfl, rfl, trivial⟩, ⟨B2, R2, C2, rfl, hO2, hA2, hR2, hN2, hS.keep 4⟩⟩
            clear hS
            rintro _ w ⟨B2, R2, C2, rfl, hO2, hA2, hR2, hN2, hS⟩
            (conv => whnf)
            (refine drawS tabOk mixed [] (No) [0, 2, 3, 4, 5, 1, 6, 7, 8, 10, 11, 12, 13, 9, 14, 15] (by kernel_rfl) ?_; rintro w1 rfl; replace hS := hS.drew)
            (conv => whnf)
            refine hS.ldF 0 rfl rfl id ?_
            (conv => whnf)
            refine (ball_ok (hS.blk 2 rfl) hO2.len).mono ?_
            rintro v w6 ⟨rfl, hx6⟩
            have hS2 := hS.no hx6
            refine KeepC.mk hx6 ?_
            (conv => whnf)
            refine neS2 ?_
            rw [hA2.data]
            (conv => whnf)
            refine brND (fun h => absurd rfl h) (fun _ => ?_)
            (conv => whnf)
            refine hS.ldF 0 rfl rfl id ?_
            (conv => whnf)
            refine (bpower_ok (hS2.blk 2 rfl) hO2.len).mono ?_
            rintro v w7 ⟨rfl, hx7⟩
            replace hS := hS2.no hx7
            refine KeepC.mk (hx6.trans hx7) ?_
            clear hS2 hx6 hx7
            rw [hA2.off]
            (conv => whnf)
            rw [show ((!B2.off) == B2.off) = false by cases B2.off <;> rfl]
            (conv => whnf)
            refine RngC.mk (by omega) (by omega) ?_
            (conv => whnf)
            refine LoopE.mk ⟨_, [(13, .int .i64 ((i + 1 : Nat) : Int)), (12, _), (10, _), (9, _), (8, _), (1, _)], ?_, ⟨rfl, rfl, rfl, rfl, rfl, rfl, trivial⟩, ⟨i + 1, c, m, B2, R2, C2, rfl, rfl, by omega, hS.sel [2, 0, 3, 1] (by decide), hO2, hA2, hR2.le (by omega), hN2, fc⟩⟩
            omega
          · skip
            (conv => whnf)
            refine DrawC.cut (fun σ w => ∃ (B2 : BytS) (R2 : RBy) (C2 : CelS), σ = [(185, .bool false), (13, .int .i64 i), (12, .pointer (some ⟨m, 0, none⟩)), (10, .pointer (some ⟨c, 0, none⟩)), (9, .pointer (some ⟨n, 0, none⟩)), (8, .pointer (some ⟨b, 0, none⟩)), (1, .slice (some ⟨b0, o0, none⟩) n0 c0)] ∧ BOk B2 ∧ Alike R2 B2 ∧ ROk R2 (18 * i + 18) ∧ C2.num < 4294967296 ∧ St W No w [blk n 91 (encRB R2), blk m 96 (encCl n C2), blk b 124 (encBy B2), blk c 126 (encCl b C2)]) ?_ ?_
            · skip
              refine drawT tabOk mixed [20, 29] (fun d => d = b ∨ d = c ∨ d = n ∨ d = m) (.take 0 (.take 1 (.take 2 (.take 3 (.take 4 (.take 6 (.take 7 (.take 8 (.take 9 (.take 10 (.alt 5 (.alt 11 (.alt 12 (.take 13 (.take 14 (.take 15 (.take 17 (.take 18 (.take 19 (.alt 16 (.alt 20 (.take 21 (.take 22 (.take 23 (.take 24 (.take 26 (.take 27 (.take 28 (.alt 25 (.alt 29 (.take 30 (.take 31 .fin)) .fin) (.alt 29 (.alt 25 (.take 30 (.take 31 .fin)) .fin) .fin))))))))) .fin) (.alt 20 (.alt 16 (.take 21 (.take 22 (.take 23 (.take 24 (.take 26 (.take 27 (.take 28 (.alt 25 (.alt 29 (.take 30 (.take 31 .fin)) .fin) (.alt 29 (.alt 25 (.take 30 (.take 31 .fin)) .fin) .fin))))))))) .fin) .fin)))))))) .fin) .fin) .fin))))))))))) (by kernel_rfl) ?_
              rintro w1 rfl
              replace hS := hS.drew
              (conv => whnf)
              refine hS.ldF 2 rfl rfl nt ?_
              (conv => whnf)
              refine hS.ldF 2 rfl rfl nt ?_
              (conv => whnf)
              refine hS.ldF 2 rfl rfl nt ?_
              (conv => whnf)
              refine hS.ldF 2 rfl rfl nt ?_
              (conv => whnf)
              refine (cput_ok a.ep a.li (hS.blk 3 rfl) (hS.blk 0 rfl) hO hN ((hE.sub rfl).ext hS.ext fun _ h => h.elim) fb fc).mono ?_
              rintro v w1 ⟨rfl, hx1, hB1, hC1⟩
              have hs0 := hS.sel [0, 3, 2, 1, 4] (by decide)
              replace hS : St W No w1 [blk b 124 (encBy (CelS.put C B a.ep a.li).2.1), blk c 126 (encCl b (CelS.put C B a.ep a.li).2.2), blk ba 83 (encP a), blk n 91 (encRB R), blk m 96 (encCl n C)] := Ev.St.upd2 hs0 hx1 (by simp [blk]) (blk_local _ _ _) hB1 rfl (blk_local _ _ _) hC1 rfl
              have hy1 := hx1.mono (T := fun d => d = b ∨ d = c ∨ d = n ∨ d = m) (fun d h => h.elim .inl fun h => .inr (.inl h))
              refine KeepC.mk hy1 ?_
              (conv => whnf)
              refine (rcput_ok a.ep a.li (hS.blk 4 rfl) (hS.blk 3 rfl) hA hO hR (by omega) hN).mono ?_
              rintro v w2 ⟨rfl, hx2, R2, hA2, hR2, hB2, hC2⟩
              have hs0 := hS.sel [3, 4, 0, 1, 2] (by decide)
              replace hS : St W No w2 [blk n 91 (encRB R2), blk m 96 (encCl n (CelS.put C B a.ep a.li).2.2), blk b 124 (encBy (CelS.put C B a.ep a.li).2.1), blk c 126 (encCl b (CelS.put C B a.ep a.li).2.2), blk ba 83 (encP a)] := Ev.St.upd2 hs0 hx2 (by simp [blk]) (blk_local _ _ _) hB2 rfl (blk_local _ _ _) hC2 rfl
              have hy2 := hx2.mono (T := fun d => d = b ∨ d = c ∨ d = n ∨ d = m) (fun d h => h.elim (fun h => .inr (.inr (.inl h))) fun h => .inr (.inr (.inr h)))
              refine KeepC.mk (hy1.trans hy2) ?_
              have hcd := put_code C B a.ep a.li
              have hN2 := put_num C B a.ep a.li hN
              have hO2 := put_ok C B a.ep a.li hO
              clear hB1 hC1 hB2 hC2 hs0
              generalize CelS.put C B a.ep a.li = Q at hS hcd hN2 hO2 hA2 ⊢
              obtain ⟨code, B2, C2⟩ := Q
              dsimp only at hS hcd hN2 hO2 hA2 ⊢
              (conv => whnf)
              refine (coded2_same code hcd _ (hE.ext hS.ext fun _ h => h.elim) (hh.ext hS.ext)).mono ?_
              rintro v w3 ⟨rfl, hx3⟩
              replace hS := hS.no hx3
              refine KeepC.mk ((hy1.trans hy2).trans hx3.of_no) ?_
              have hK := (hy1.trans hy2).trans (hx3.of_no (S := fun d => d = b ∨ d = c ∨ d = n ∨ d = m))
              clear hy1 hy2 hx1 hx2 hx3
              repeat' ((conv => whnf); first | refine And.intro ?_ ?_ | (refine hS.ld 1 rfl rfl ?_; refine KeepC.mk hK ?_) | (refine (cepoch_ok (hS.blk 3 rfl)).mono ?_; rintro v w' ⟨rfl, hx'⟩; replace hS := hS.no hx'; replace hK := hK.trans hx'.of_no; clear hx'; refine KeepC.mk hK ?_) | (refine (clife_ok (hS.blk 3 rfl)).mono ?_; rintro v w' ⟨rfl, hx'⟩; replace hS := hS.no hx'; replace hK := hK.trans hx'.of_no; clear hx'; refine KeepC.mk hK ?_) | refine brND (fun h => absurd rfl h) (fun _ => ?_))
              all_goals (conv => whnf)
              all_goals rw [show ((C2.li : Int) != (C2.li : Int)) = false by simp]
              all_goals exact CutE.mk ⟨[(185, .bool false), (13, _), (12, _), (10, _), (9, _), (8, _), (1, _)], ⟨rfl, rfl, rfl, rfl, rfl, rfl, rfl, trivial⟩, ⟨B2, R2, C2, rfl, hO2, hA2, hR2, hN2, hS.keep 4⟩⟩
            clear hS
            rintro _ w ⟨B2, R2, C2, rfl, hO2, hA2, hR2, hN2, hS⟩
            (conv => whnf)
            (refine drawS tabOk mixed [] (No) [0, 2, 3, 4, 5, 1, 6, 7, 8, 10, 11, 12, 13, 9, 14, 15] (by kernel_rfl) ?_; rintro w1 rfl; replace hS := hS.drew)
            (conv => whnf)
            refine hS.ldF 0 rfl rfl id ?_
            (conv => whnf)
            refine (ball_ok (hS.blk 2 rfl) hO2.len).mono ?_
            rintro v w6 ⟨rfl, hx6⟩
            have hS2 := hS.no hx6
            refine KeepC.mk hx6 ?_
            (conv => whnf)
            refine neS2 ?_
            rw [hA2.data]
            (conv => whnf)
            refine brND (fun h => absurd rfl h) (fun _ => ?_)
            (conv => whnf)
            refine hS.ldF 0 rfl rfl id ?_
            (conv => whnf)
            refine (bpower_ok (hS2.blk 2 rfl) hO2.len).mono ?_
            rintro v w7 ⟨rfl, hx7⟩
            replace hS := hS2.no hx7
            refine KeepC.mk (hx6.trans hx7) ?_
            clear hS2 hx6 hx7
            rw [hA2.off]
            (conv => whnf)
            rw [show ((!B2.off) == B2.off) = false by cases B2.off <;> rfl]
            (conv => whnf)
            refine RngC.mk (by omega) (by omega) ?_
            (conv => whnf)
            refine LoopE.mk ⟨_, [(13, .int .i64 ((i + 1 : Nat) : Int)), (12, _), (10, _), (9, _), (8, _), (1, _)], ?_, ⟨rfl, rfl, rfl, rfl, rfl, rfl, trivial⟩, ⟨i + 1, c, m, B2, R2, C2, rfl, rfl, by omega, hS.sel [2, 0, 3, 1] (by decide), hO2, hA2, hR2.le (by omega), hN2, fc⟩⟩
            omega
      · (conv => whnf)
        refine (bon_ok (hS.blk 0 rfl) hO.len).mono ?_
        rintro v w' ⟨hx', hB⟩
        replace hS := hS.upd 0 rfl hx' (fun c hc => by subst hc; exact List.mem_singleton.2 rfl) (blk_local _ _ _) hB (fun c hc => .inl hc)
        clear hx' hB
        (conv => whnf)
        refine (rbon_ok (hS.blk 1 rfl)).mono ?_
        rintro v w' ⟨hx', hB⟩
        replace hS := hS.upd 1 rfl hx' (fun c hc => by subst hc; exact List.mem_singleton.2 rfl) (blk_local _ _ _) hB (fun c hc => .inl hc)
        clear hx' hB
        have hO5 : BOk ⟨BytS.data B, false, -1⟩ := ⟨hO.len, by dsimp only; omega, by dsimp only; omega⟩
        have hA5 := on_alike hA
        have hR5 : ROk ⟨RBy.data R, false, RBy.left R, false⟩ (18 * i) := ⟨hR.len, fun h => absurd h (by simp), hR.lo, hR.hi⟩
        generalize hg1 : (⟨BytS.data B, false, -1⟩ : BytS) = B5 at hS hO5 hA5
        generalize (⟨RBy.data R, false, RBy.left R, false⟩ : RBy) = R5 at hS hA5 hR5
        have ho5 : B5.off = false := by rw [← hg1]
        (conv => whnf)
        refine (copen_ok (hS.blk 0 rfl) hO5.len ho5).mono ?_
        rintro v w' ⟨c2, rfl, hc2, hx', hB⟩
        replace hS := hS.made hx' (blk_local _ _ _) hB (by simp [blk]; exact ⟨hc2, hB.lt⟩)
        clear hx' hB hc2
        have fc2 := hS.fresh 5 rfl
        (conv => whnf)
        refine (ropen_ok (hS.blk 1 rfl) hR5.len).mono ?_
        rintro v w' ⟨m2, rfl, hm2, hx', hB⟩
        rw [hA5.data] at hB
        replace hS := hS.made hx' (blk_local _ _ _) hB (by simp [blk]; exact ⟨hm2, hB.lt⟩)
        clear hx' hB hm2
        have nt3 : ¬ (ba = b ∨ ba = c2 ∨ ba = n ∨ ba = m2) := by
          have e1 := hS.ne 2 0 rfl rfl (by decide)
          have e2 := hS.ne 2 1 rfl rfl (by decide)
          have e3 := hS.ne 2 5 rfl rfl (by decide)
          have e4 := hS.ne 2 6 rfl rfl (by decide)
          omega
        have hN3 : (openS B5.data).num < 4294967296 := (openN_lt B5.data 2).1
        replace hS : St W No w' [blk b 124 (encBy B5), blk n 91 (encRB R5), blk ba 83 (encP a), blk c2 126 (encCl b (openS B5.data)), blk m2 96 (encCl n (openS B5.data))] := hS.sel [0, 1, 2, 5, 6] (by decide)
        generalize openS B5.data = C5 at hS hN3
        clear hN fc nt
        clear hm0c
        obtain ⟨c, rfl⟩ : ∃ x, x = c2 := ⟨_, rfl⟩
        obtain ⟨m, rfl⟩ : ∃ x, x = m2 := ⟨_, rfl⟩
        obtain ⟨C, rfl⟩ : ∃ x, x = C5 := ⟨_, rfl⟩
        have hN := hN3
        have fc := fc2
        have nt := nt3
        (conv => whnf)
        refine hS.ld 2 rfl rfl ?_
        (conv => whnf)
        refine brD (fun h7 => ?_) (fun h7 => ?_)
        · (conv => whnf)
          have hO1 := cut_ok hO5 a.cut hok.2.2
          have hA1 := cut_alike hA5 a.cut
          have hR1 := cut_rok hR5 a.cut hok.2.2
          (refine drawS tabOk mixed [] (fun d => d = b ∨ d = n) [0, 1, 2, 4, 5, 6, 3, 7, 8, 9] (by kernel_rfl) ?_; rintro w1 rfl; replace hS := hS.drew)
          (conv => whnf)
          refine hS.ldF 2 rfl rfl nt2 ?_
          (conv => whnf)
          refine hS.ldF 2 rfl rfl nt2 ?_
          (conv => whnf)
          refine (bcut_ok a.cut (hS.blk 0 rfl) hO5.len ((hE.sub rfl).ext hS.ext fun _ h => h.elim) fb).mono ?_
          rintro v w1 ⟨rfl, hx1, hB1⟩
          replace hS := hS.upd 0 rfl hx1 (fun c hc => by subst hc; exact List.mem_singleton.2 rfl) (blk_local _ _ _) hB1 (fun c hc => .inl hc)
          refine KeepC.mk (hx1.mono fun d h => .inl h) ?_
          (conv => whnf)
          refine (rbcut_ok a.cut (hS.blk 1 rfl)).mono ?_
          rintro v w2 ⟨rfl, hx2, hB2⟩
          replace hS := hS.upd 1 rfl hx2 (fun c hc => by subst hc; exact List.mem_singleton.2 rfl) (blk_local _ _ _) hB2 (fun c hc => .inl hc)
          refine KeepC.mk ((hx1.mono fun d h => .inl h).trans (hx2.mono fun d h => .inr h)) ?_
          rw [hA5.off]
          have hc12 : (if a.cut < 0 then 2 else if BytS.off B5 = true then 7 else 0 : Nat) < 12 := by split <;> (try split) <;> omega
          generalize (if a.cut < 0 then 2 else if BytS.off B5 = true then 7 else 0 : Nat) = code at hc12
          (conv => whnf)
          refine (coded2_same code hc12 _ (hE.ext hS.ext fun _ h => h.elim) (hh.ext hS.ext)).mono ?_
          rintro v w3 ⟨rfl, hx3⟩
          replace hS := hS.no hx3
          refine KeepC.mk (((hx1.mono fun d h => .inl h).trans (hx2.mono fun d h => .inr h)).trans hx3.of_no) ?_
          clear hx1 hx2 hx3 hB1 hB2
          (conv => whnf)
          generalize (if a.cut < 0 ∨ BytS.off B5 = true then B5 else ⟨BytS.data B5, BytS.off B5, a.cut⟩) = B3 at hS hO1 hA1
          generalize (if a.cut < 0 ∨ RBy.off R5 = true then R5 else ⟨RBy.data R5, RBy.off R5, a.cut, true⟩) = R3 at hS hA1 hR1
          (conv => whnf)
          refine DrawC.cut (fun σ w => ∃ (B2 : BytS) (R2 : RBy) (C2 : CelS), σ = [(185, .bool false), (13, .int .i64 i), (12, .pointer (some ⟨m, 0, none⟩)), (10, .pointer (some ⟨c, 0, none⟩)), (9, .pointer (some ⟨n, 0, none⟩)), (8, .pointer (some ⟨b, 0, none⟩)), (1, .slice (some ⟨b0, o0, none⟩) n0 c0)] ∧ BOk B2 ∧ Alike R2 B2 ∧ ROk R2 (18 * i + 18) ∧ C2.num < 4294967296 ∧ St W No w [blk n 91 (encRB R2), blk m 96 (encCl n C2), blk b 124 (encBy B2), blk c 126 (encCl b C2)]) ?_ ?_
          · skip
            refine drawT tabOk mixed [20, 29] (fun d => d = b ∨ d = c ∨ d = n ∨ d = m) (.take 0 (.take 1 (.take 2 (.take 3 (.take 4 (.take 6 (.take 7 (.take 8 (.take 9 (.take 10 (.alt 5 (.alt 11 (.alt 12 (.take 13 (.take 14 (.take 15 (.take 17 (.take 18 (.take 19 (.alt 16 (.alt 20 (.take 21 (.take 22 (.take 23 (.take 24 (.take 26 (.take 27 (.take 28 (.alt 25 (.alt 29 (.take 30 (.take 31 .fin)) .fin) (.alt 29 (.alt 25 (.take 30 (.take 31 .fin)) .fin) .fin))))))))) .fin) (.alt 20 (.alt 16 (.take 21 (.take 22 (.take 23 (.take 24 (.take 26 (.take 27 (.take 28 (.alt 25 (.alt 29 (.take 30 (.take 31 .fin)) .fin) (.alt 29 (.alt 25 (.take 30 (.take 31 .fin)) .fin) .fin))))))))) .fin) .fin)))))))) .fin) .fin) .fin))))))))))) (by kernel_rfl) ?_
            rintro w1 rfl
            replace hS := hS.drew
            (conv => whnf)
            refine hS.ldF 2 rfl rfl nt ?_
            (conv => whnf)
            refine hS.ldF 2 rfl rfl nt ?_
            (conv => whnf)
            refine hS.ldF 2 rfl rfl nt ?_
            (conv => whnf)
            refine hS.ldF 2 rfl rfl nt ?_
            (conv => whnf)
            refine (cput_ok a.ep a.li (hS.blk 3 rfl) (hS.blk 0 rfl) hO1 hN ((hE.sub rfl).ext hS.ext fun _ h => h.elim) fb fc).mono ?_
            rintro v w1 ⟨rfl, hx1, hB1, hC1⟩
            have hs0 := hS.sel [0, 3, 2, 1, 4] (by decide)
            replace hS : St W No w1 [blk b 124 (encBy (CelS.put C B3 a.ep a.li).2.1), blk c 126 (encCl b (CelS.put C B3 a.ep a.li).2.2), blk ba 83 (encP a), blk n 91 (encRB R3), blk m 96 (encCl n C)] := Ev.St.upd2 hs0 hx1 (by simp [blk]) (blk_local _ _ _) hB1 rfl (blk_local _ _ _) hC1 rfl
            have hy1 := hx1.mono (T := fun d => d = b ∨ d = c ∨ d = n ∨ d = m) (fun d h => h.elim .inl fun h => .inr (.inl h))
            refine KeepC.mk hy1 ?_
            (conv => whnf)
            refine (rcput_ok a.ep a.li (hS.blk 4 rfl) (hS.blk 3 rfl) hA1 hO1 hR1 (by omega) hN).mono ?_
            rintro v w2 ⟨rfl, hx2, R2, hA2, hR2, hB2, hC2⟩
            have hs0 := hS.sel [3, 4, 0, 1, 2] (by decide)
            replace hS : St W No w2 [blk n 91 (encRB R2), blk m 96 (encCl n (CelS.put C B3 a.ep a.li).2.2), blk b 124 (encBy (CelS.put C B3 a.ep a.li).2.1), blk c 126 (encCl b (CelS.put C B3 a.ep a.li).2.2), blk ba 83 (encP a)] := Ev.St.upd2 hs0 hx2 (by simp [blk]) (blk_local _ _ _) hB2 rfl (blk_local _ _ _) hC2 rfl
            have hy2 := hx2.mono (T := fun d => d = b ∨ d = c ∨ d = n ∨ d = m) (fun d h => h.elim (fun h => .inr (.inr (.inl h))) fun h => .inr (.inr (.inr h)))
            refine KeepC.mk (hy1.trans hy2) ?_
            have hcd := put_code C B3 a.ep a.li
            have hN2 := put_num C B3 a.ep a.li hN
            have hO2 := put_ok C B3 a.ep a.li hO1
            clear hB1 hC1 hB2 hC2 hs0
            generalize CelS.put C B3 a.ep a.li = Q at hS hcd hN2 hO2 hA2 ⊢
            obtain ⟨code, B2, C2⟩ := Q
            dsimp only at hS hcd hN2 hO2 hA2 ⊢
            (conv => whnf)
            refine (coded2_same code hcd _ (hE.ext hS.ext fun _ h => h.elim) (hh.ext hS.ext)).mono ?_
            rintro v w3 ⟨rfl, hx3⟩
            replace hS := hS.no hx3
            refine KeepC.mk ((hy1.trans hy2).trans hx3.of_no) ?_
            have hK := (hy1.trans hy2).trans (hx3.of_no (S := fun d => d = b ∨ d = c ∨ d = n ∨ d = m))
            clear hy1 hy2 hx1 hx2 hx3
            repeat' ((conv => whnf); first | refine And.intro ?_ ?_ | (refine hS.ld 1 rfl rfl ?_; refine KeepC.mk hK ?_) | (refine (cepoch_ok (hS.blk 3 rfl)).mono ?_; rintro v w' ⟨rfl, hx'⟩; replace hS := hS.no hx'; replace hK := hK.trans hx'.of_no; clear hx'; refine KeepC.mk hK ?_) | (refine (clife_ok (hS.blk 3 rfl)).mono ?_; rintro v w' ⟨rfl, hx'⟩; replace hS := hS.no hx'; replace hK := hK.trans hx'.of_no; clear hx'; refine KeepC.mk hK ?_) | refine brND (fun h => absurd rfl h) (fun _ => ?_))
            all_goals (conv => whnf)
            all_goals rw [show ((C2.li : Int) != (C2.li : Int)) = false by simp]
            all_goals exact CutE.mk ⟨[(185, .bool false), (13, _), (12, _), (10, _), (9, _), (8, _), (1, _)], ⟨rfl, rfl, rfl, rfl, rfl, rfl, rfl, trivial⟩, ⟨B2, R2, C2, rfl, hO2, hA2, hR2, hN2, hS.keep 4⟩⟩
          clear hS
          rintro _ w ⟨B2, R2, C2, rfl, hO2, hA2, hR2, hN2, hS⟩
          (conv => whnf)
          (refine drawS tabOk mixed [] (No) [0, 2, 3, 4, 5, 1, 6, 7, 8, 10, 11, 12, 13, 9, 14, 15] (by kernel_rfl) ?_; rintro w1 rfl; replace hS := hS.drew)
          (conv => whnf)
          refine hS.ldF 0 rfl rfl id ?_
          (conv => whnf)
          refine (ball_ok (hS.blk 2 rfl) hO2.len).mono ?_
          rintro v w6 ⟨rfl, hx6⟩
          have hS2 := hS.no hx6
          refine KeepC.mk hx6 ?_
          (conv => whnf)
          refine neS2 ?_
          rw [hA2.data]
          (conv => whnf)
          refine brND (fun h => absurd rfl h) (fun _ => ?_)
          (conv => whnf)
          refine hS.ldF 0 rfl rfl id ?_
          (conv => whnf)
          refine (bpower_ok (hS2.blk 2 rfl) hO2.len).mono ?_
          rintro v w7 ⟨rfl, hx7⟩
          replace hS := hS2.no hx7
          refine KeepC.mk (hx6.trans hx7) ?_
          clear hS2 hx6 hx7
          rw [hA2.off]
          (conv => whnf)
          rw [show ((!B2.off) == B2.off) = false by cases B2.off <;> rfl]
          (conv => whnf)
          refine RngC.mk (by omega) (by omega) ?_
          (conv => whnf)
          refine LoopE.mk ⟨_, [(13, .int .i64 ((i + 1 : Nat) : Int)), (12, _), (10, _), (9, _), (8, _), (1, _)], ?_, ⟨rfl, rfl, rfl, rfl, rfl, rfl, trivial⟩, ⟨i + 1, c, m, B2, R2, C2, rfl, rfl, by omega, hS.sel [2, 0, 3, 1] (by decide), hO2, hA2, hR2.le (by omega), hN2, fc⟩⟩
          omega
        · (conv => whnf)
          refine hS.ld 2 rfl rfl ?_
          (conv => whnf)
          refine brD (fun h8 => ?_) (fun h8 => ?_)
          · (conv => whnf)
            have hO1 := cut_ok hO5 a.cut hok.2.2
            have hA1 := cut_alike hA5 a.cut
            have hR1 := cut_rok hR5 a.cut hok.2.2
            (refine drawS tabOk mixed [] (fun d => d = b ∨ d = n) [0, 1, 2, 4, 5, 6, 3, 7, 8, 9] (by kernel_rfl) ?_; rintro w1 rfl; replace hS := hS.drew)
            (conv => whnf)
            refine hS.ldF 2 rfl rfl nt2 ?_
            (conv => whnf)
            refine hS.ldF 2 rfl rfl nt2 ?_
            (conv => whnf)
            refine (bcut_ok a.cut (hS.blk 0 rfl) hO5.len ((hE.sub rfl).ext hS.ext fun _ h => h.elim) fb).mono ?_
            rintro v w1 ⟨rfl, hx1, hB1⟩
            replace hS := hS.upd 0 rfl hx1 (fun c hc => by subst hc; exact List.mem_singleton.2 rfl) (blk_local _ _ _) hB1 (fun c hc => .inl hc)
            refine KeepC.mk (hx1.mono fun d h => .inl h) ?_
            (conv => whnf)
            refine (rbcut_ok a.cut (hS.blk 1 rfl)).mono ?_
            rintro v w2 ⟨rfl, hx2, hB2⟩
            replace hS := hS.upd 1 rfl hx2 (fun c hc => by subst hc; exact List.mem_singleton.2 rfl) (blk_local _ _ _) hB2 (fun c hc => .inl hc)
            refine KeepC.mk ((hx1.mono fun d h => .inl h).trans (hx2.mono fun d h => .inr h)) ?_
            rw [hA5.off]
            have hc12 : (if a.cut < 0 then 2 else if BytS.off B5 = true then 7 else 0 : Nat) < 12 := by split <;> (try split) <;> omega
            generalize (if a.cut < 0 then 2 else if BytS.off B5 = true then 7 else 0 : Nat) = code at hc12
            (conv => whnf)
            refine (coded2_same code hc12 _ (hE.ext hS.ext fun _ h => h.elim) (hh.ext hS.ext)).mono ?_
            rintro v w3 ⟨rfl, hx3⟩
            replace hS := hS.no hx3
            refine KeepC.mk (((hx1.mono fun d h => .inl h).trans (hx2.mono fun d h => .inr h)).trans hx3.of_no) ?_
            clear hx1 hx2 hx3 hB1 hB2
            (conv => whnf)
            generalize (if a.cut < 0 ∨ BytS.off B5 = true then B5 else ⟨BytS.data B5, BytS.off B5, a.cut⟩) = B3 at hS hO1 hA1
            generalize (if a.cut < 0 ∨ RBy.off R5 = true then R5 else ⟨RBy.data R5, RBy.off R5, a.cut, true⟩) = R3 at hS hA1 hR1
            (conv => whnf)
            refine DrawC.cut (fun σ w => ∃ (B2 : BytS) (R2 : RBy) (C2 : CelS), σ = [(185, .bool false), (13, .int .i64 i), (12, .pointer (some ⟨m, 0, none⟩)), (10, .pointer (some ⟨c, 0, none⟩)), (9, .pointer (some ⟨n, 0, none⟩)), (8, .pointer (some ⟨b, 0, none⟩)), (1, .slice (some ⟨b0, o0, none⟩) n0 c0)] ∧ BOk B2 ∧ Alike R2 B2 ∧ ROk R2 (18 * i + 18) ∧ C2.num < 4294967296 ∧ St W No w [blk n 91 (encRB R2), blk m 96 (encCl n C2), blk b 124 (encBy B2), blk c 126 (encCl b C2)]) ?_ ?_
            · skip
              refine drawT tabOk mixed [20, 29] (fun d => d = b ∨ d = c ∨ d = n ∨ d = m) (.take 0 (.take 1 (.take 2 (.take 3 (.take 4 (.take 6 (.take 7 (.take 8 (.take 9 (.take 10 (.alt 5 (.alt 11 (.alt 12 (.take 13 (.take 14 (.take 15 (.take 17 (.take 18 (.take 19 (.alt 16 (.alt 20 (.take 21 (.take 22 (.take 23 (.take 24 (.take 26 (.take 27 (.take 28 (.alt 25 (.alt 29 (.take 30 (.take 31 .fin)) .fin) (.alt 29 (.alt 25 (.take 30 (.take 31 .fin)) .fin) .fin))))))))) .fin) (.alt 20 (.alt 16 (.take 21 (.take 22 (.take 23 (.take 24 (.take 26 (.take 27 (.take 28 (.alt 25 (.alt 29 (.take 30 (.take 31 .fin)) .fin) (.alt 29 (.alt 25 (.take 30 (.take 31 .fin)) .fin) .fin))))))))) .fin) .fin)))))))) .fin) .fin) .fin))))))))))) (by kernel_rfl) ?_
              rintro w1 rfl
              replace hS := hS.drew
              (conv => whnf)
              refine hS.ldF 2 rfl rfl nt ?_
              (conv => whnf)
              refine hS.ldF 2 rfl rfl nt ?_
              (conv => whnf)
              refine hS.ldF 2 rfl rfl nt ?_
              (conv => whnf)
              refine hS.ldF 2 rfl rfl nt ?_
              (conv => whnf)
              refine (cput_ok a.ep a.li (hS.blk 3 rfl) (hS.blk 0 rfl) hO1 hN ((hE.sub rfl).ext hS.ext fun _ h => h.elim) fb fc).mono ?_
              rintro v w1 ⟨rfl, hx1, hB1, hC1⟩
              have hs0 := hS.sel [0, 3, 2, 1, 4] (by decide)
              replace hS : St W No w1 [blk b 124 (encBy (CelS.put C B3 a.ep a.li).2.1), blk c 126 (encCl b (CelS.put C B3 a.ep a.li).2.2), blk ba 83 (encP a), blk n 91 (encRB R3), blk m 96 (encCl n C)] := Ev.St.upd2 hs0 hx1 (by simp [blk]) (blk_local _ _ _) hB1 rfl (blk_local _ _ _) hC1 rfl
              have hy1 := hx1.mono (T := fun d => d = b ∨ d = c ∨ d = n ∨ d = m) (fun d h => h.elim .inl fun h => .inr (.inl h))
              refine KeepC.mk hy1 ?_
              (conv => whnf)
              refine (rcput_ok a.ep a.li (hS.blk 4 rfl) (hS.blk 3 rfl) hA1 hO1 hR1 (by omega) hN).mono ?_
              rintro v w2 ⟨rfl, hx2, R2, hA2, hR2, hB2, hC2⟩
              have hs0 := hS.sel [3, 4, 0, 1, 2] (by decide)
              replace hS : St W No w2 [blk n 91 (encRB R2), blk m 96 (encCl n (CelS.put C B3 a.ep a.li).2.2), blk b 124 (encBy (CelS.put C B3 a.ep a.li).2.1), blk c 126 (encCl b (CelS.put C B3 a.ep a.li).2.2), blk ba 83 (encP a)] := Ev.St.upd2 hs0 hx2 (by simp [blk]) (blk_local _ _ _) hB2 rfl (blk_local _ _ _) hC2 rfl
              have hy2 := hx2.mono (T := fun d => d = b ∨ d = c ∨ d = n ∨ d = m) (fun d h => h.elim (fun h => .inr (.inr (.inl h))) fun h => .inr (.inr (.inr h)))
              refine KeepC.mk (hy1.trans hy2) ?_
              have hcd := put_code C B3 a.ep a.li
              have hN2 := put_num C B3 a.ep a.li hN
              have hO2 := put_ok C B3 a.ep a.li hO1
              clear hB1 hC1 hB2 hC2 hs0
              generalize CelS.put C B3 a.ep a.li = Q at hS hcd hN2 hO2 hA2 ⊢
              obtain ⟨code, B2, C2⟩ := Q
              dsimp only at hS hcd hN2 hO2 hA2 ⊢
              (conv => whnf)
              refine (coded2_same code hcd _ (hE.ext hS.ext fun _ h => h.elim) (hh.ext hS.ext)).mono ?_
              rintro v w3 ⟨rfl, hx3⟩
              replace hS := hS.no hx3
              refine KeepC.mk ((hy1.trans hy2).trans hx3.of_no) ?_
              have hK := (hy1.trans hy2).trans (hx3.of_no (S := fun d => d = b ∨ d = c ∨ d = n ∨ d = m))
              clear hy1 hy2 hx1 hx2 hx3
              repeat' ((conv => whnf); first | refine And.intro ?_ ?_ | (refine hS.ld 1 rfl rfl ?_; refine KeepC.mk hK ?_) | (refine (cepoch_ok (hS.blk 3 rfl)).mono ?_; rintro v w' ⟨rfl, hx'⟩; replace hS := hS.no hx'; replace hK := hK.trans hx'.of_no; clear hx'; refine KeepC.mk hK ?_) | (refine (clife_ok (hS.blk 3 rfl)).mono ?_; rintro v w' ⟨rfl, hx'⟩; replace hS := hS.no hx'; replace hK := hK.trans hx'.of_no; clear hx'; refine KeepC.mk hK ?_) | refine brND (fun h => absurd rfl h) (fun _ => ?_))
              all_goals (conv => whnf)
              all_goals rw [show ((C2.li : Int) != (C2.li : Int)) = false by simp]
              all_goals exact CutE.mk ⟨[(185, .bool false), (13, _), (12, _), (10, _), (9, _), (8, _), (1, _)], ⟨rfl, rfl, rfl, rfl, rfl, rfl, rfl, trivial⟩, ⟨B2, R2, C2, rfl, hO2, hA2, hR2, hN2, hS.keep 4⟩⟩
            clear hS
            rintro _ w ⟨B2, R2, C2, rfl, hO2, hA2, hR2, hN2, hS⟩
            (conv => whnf)
            (refine drawS tabOk mixed [] (No) [0, 2, 3, 4, 5, 1, 6, 7, 8, 10, 11, 12, 13, 9, 14, 15] (by kernel_rfl) ?_; rintro w1 rfl; replace hS := hS.drew)
            (conv => whnf)
            refine hS.ldF 0 rfl rfl id ?_
            (conv => whnf)
            refine (ball_ok (hS.blk 2 rfl) hO2.len).mono ?_
            rintro v w6 ⟨rfl, hx6⟩
            have hS2 := hS.no hx6
            refine KeepC.mk hx6 ?_
            (conv => whnf)
            refine neS2 ?_
            rw [hA2.data]
            (conv => whnf)
            refine brND (fun h => absurd rfl h) (fun _ => ?_)
            (conv => whnf)
            refine hS.ldF 0 rfl rfl id ?_
            (conv => whnf)
            refine (bpower_ok (hS2.blk 2 rfl) hO2.len).mono ?_
            rintro v w7 ⟨rfl, hx7⟩
            replace hS := hS2.no hx7
            refine KeepC.mk (hx6.trans hx7) ?_
            clear hS2 hx6 hx7
            rw [hA2.off]
            (conv => whnf)
            rw [show ((!B2.off) == B2.off) = false by cases B2.off <;> rfl]
            (conv => whnf)
            refine RngC.mk (by omega) (by omega) ?_
            (conv => whnf)
            refine LoopE.mk ⟨_, [(13, .int .i64 ((i + 1 : Nat) : Int)), (12, _), (10, _), (9, _), (8, _), (1, _)], ?_, ⟨rfl, rfl, rfl, rfl, rfl, rfl, trivial⟩, ⟨i + 1, c, m, B2, R2, C2, rfl, rfl, by omega, hS.sel [2, 0, 3, 1] (by decide), hO2, hA2, hR2.le (by omega), hN2, fc⟩⟩
            omega
          · skip
            (conv => whnf)
            refine DrawC.cut (fun σ w => ∃ (B2 : BytS) (R2 : RBy) (C2 : CelS), σ = [(185, .bool false), (13, .int .i64 i), (12, .pointer (some ⟨m, 0, none⟩)), (10, .pointer (some ⟨c, 0, none⟩)), (9, .pointer (some ⟨n, 0, none⟩)), (8, .pointer (some ⟨b, 0, none⟩)), (1, .slice (some ⟨b0, o0, none⟩) n0 c0)] ∧ BOk B2 ∧ Alike R2 B2 ∧ ROk R2 (18 * i + 18) ∧ C2.num < 4294967296 ∧ St W No w [blk n 91 (encRB R2), blk m 96 (encCl n C2), blk b 124 (encBy B2), blk c 126 (encCl b C2)]) ?_ ?_
            · skip
              refine drawT tabOk mixed [20, 29] (fun d => d = b ∨ d = c ∨ d = n ∨ d = m) (.take 0 (.take 1 (.take 2 (.take 3 (.take 4 (.take 6 (.take 7 (.take 8 (.take 9 (.take 10 (.alt 5 (.alt 11 (.alt 12 (.take 13 (.take 14 (.take 15 (.take 17 (.take 18 (.take 19 (.alt 16 (.alt 20 (.take 21 (.take 22 (.take 23 (.take 24 (.take 26 (.take 27 (.take 28 (.alt 25 (.alt 29 (.take 30 (.take 31 .fin)) .fin) (.alt 29 (.alt 25 (.take 30 (.take 31 .fin)) .fin) .fin))))))))) .fin) (.alt 20 (.alt 16 (.take 21 (.take 22 (.take 23 (.take 24 (.take 26 (.take 27 (.take 28 (.alt 25 (.alt 29 (.take 30 (.take 31 .fin)) .fin) (.alt 29 (.alt 25 (.take 30 (.take 31 .fin)) .fin) .fin))))))))) .fin) .fin)))))))) .fin) .fin) .fin))))))))))) (by kernel_rfl) ?_
              rintro w1 rfl
              replace hS := hS.drew
              (conv => whnf)
              refine hS.ldF 2 rfl rfl nt ?_
              (conv => whnf)
              refine hS.ldF 2 rfl rfl nt ?_
              (conv => whnf)
              refine hS.ldF 2 rfl rfl nt ?_
              (conv => whnf)
              refine hS.ldF 2 rfl rfl nt ?_
              (conv => whnf)
              refine (cput_ok a.ep a.li (hS.blk 3 rfl) (hS.blk 0 rfl) hO5 hN ((hE.sub rfl).ext hS.ext fun _ h => h.elim) fb fc).mono ?_
              rintro v w1 ⟨rfl, hx1, hB1, hC1⟩
              have hs0 := hS.sel [0, 3, 2, 1, 4] (by decide)
              replace hS : St W No w1 [blk b 124 (encBy (CelS.put C B5 a.ep a.li).2.1), blk c 126 (encCl b (CelS.put C B5 a.ep a.li).2.2), blk ba 83 (encP a), blk n 91 (encRB R5), blk m 96 (encCl n C)] := Ev.St.upd2 hs0 hx1 (by simp [blk]) (blk_local _ _ _) hB1 rfl (blk_local _ _ _) hC1 rfl
              have hy1 := hx1.mono (T := fun d => d = b ∨ d = c ∨ d = n ∨ d = m) (fun d h => h.elim .inl fun h => .inr (.inl h))
              refine KeepC.mk hy1 ?_
              (conv => whnf)
              refine (rcput_ok a.ep a.li (hS.blk 4 rfl) (hS.blk 3 rfl) hA5 hO5 hR5 (by omega) hN).mono ?_
              rintro v w2 ⟨rfl, hx2, R2, hA2, hR2, hB2, hC2⟩
              have hs0 := hS.sel [3, 4, 0, 1, 2] (by decide)
              replace hS : St W No w2 [blk n 91 (encRB R2), blk m 96 (encCl n (CelS.put C B5 a.ep a.li).2.2), blk b 124 (encBy (CelS.put C B5 a.ep a.li).2.1), blk c 126 (encCl b (CelS.put C B5 a.ep a.li).2.2), blk ba 83 (encP a)] := Ev.St.upd2 hs0 hx2 (by simp [blk]) (blk_local _ _ _) hB2 rfl (blk_local _ _ _) hC2 rfl
              have hy2 := hx2.mono (T := fun d => d = b ∨ d = c ∨ d = n ∨ d = m) (fun d h => h.elim (fun h => .inr (.inr (.inl h))) fun h => .inr (.inr (.inr h)))
              refine KeepC.mk (hy1.trans hy2) ?_
              have hcd := put_code C B5 a.ep a.li
              have hN2 := put_num C B5 a.ep a.li hN
              have hO2 := put_ok C B5 a.ep a.li hO5
              clear hB1 hC1 hB2 hC2 hs0
              generalize CelS.put C B5 a.ep a.li = Q at hS hcd hN2 hO2 hA2 ⊢
              obtain ⟨code, B2, C2⟩ := Q
              dsimp only at hS hcd hN2 hO2 hA2 ⊢
              (conv => whnf)
              refine (coded2_same code hcd _ (hE.ext hS.ext fun _ h => h.elim) (hh.ext hS.ext)).mono ?_
              rintro v w3 ⟨rfl, hx3⟩
              replace hS := hS.no hx3
              refine KeepC.mk ((hy1.trans hy2).trans hx3.of_no) ?_
              have hK := (hy1.trans hy2).trans (hx3.of_no (S := fun d => d = b ∨ d = c ∨ d = n ∨ d = m))
              clear hy1 hy2 hx1 hx2 hx3
              repeat' ((conv => whnf); first | refine And.intro ?_ ?_ | (refine hS.ld 1 rfl rfl ?_; refine KeepC.mk hK ?_) | (refine (cepoch_ok (hS.blk 3 rfl)).mono ?_; rintro v w' ⟨rfl, hx'⟩; replace hS := hS.no hx'; replace hK := hK.trans hx'.of_no; clear hx'; refine KeepC.mk hK ?_) | (refine (clife_ok (hS.blk 3 rfl)).mono ?_; rintro v w' ⟨rfl, hx'⟩; replace hS := hS.no hx'; replace hK := hK.trans hx'.of_no; clear hx'; refine KeepC.mk hK ?_) | refine brND (fun h => absurd rfl h) (fun _ => ?_))
              all_goals (conv => whnf)
              all_goals rw [show ((C2.li : Int) != (C2.li : Int)) = false by simp]
              all_goals exact CutE.mk ⟨[(185, .bool false), (13, _), (12, _), (10, _), (9, _), (8, _), (1, _)], ⟨rfl, rfl, rfl, rfl, rfl, rfl, rfl, trivial⟩, ⟨B2, R2, C2, rfl, hO2, hA2, hR2, hN2, hS.keep 4⟩⟩
            clear hS
            rintro _ w ⟨B2, R2, C2, rfl, hO2, hA2, hR2, hN2, hS⟩
            (conv => whnf)
            (refine drawS tabOk mixed [] (No) [0, 2, 3, 4, 5, 1, 6, 7, 8, 10, 11, 12, 13, 9, 14, 15] (by kernel_rfl) ?_; rintro w1 rfl; replace hS := hS.drew)
            (conv => whnf)
            refine hS.ldF 0 rfl rfl id ?_
            (conv => whnf)
            refine (ball_ok (hS.blk 2 rfl) hO2.len).mono ?_
            rintro v w6 ⟨rfl, hx6⟩
            have hS2 := hS.no hx6
            refine KeepC.mk hx6 ?_
            (conv => whnf)
            refine neS2 ?_
            rw [hA2.data]
            (conv => whnf)
            refine brND (fun h => absurd rfl h) (fun _ => ?_)
            (conv => whnf)
            refine hS.ldF 0 rfl rfl id ?_
            (conv => whnf)
            refine (bpower_ok (hS2.blk 2 rfl) hO2.len).mono ?_
            rintro v w7 ⟨rfl, hx7⟩
            replace hS := hS2.no hx7
            refine KeepC.mk (hx6.trans hx7) ?_
            clear hS2 hx6 hx7
            rw [hA2.off]
            (conv => whnf)
            rw [show ((!B2.off) == B2.off) = false by cases B2.off <;> rfl]
            (conv => whnf)
            refine RngC.mk (by omega) (by omega) ?_
            (conv => whnf)
            refine LoopE.mk ⟨_, [(13, .int .i64 ((i + 1 : Nat) : Int)), (12, _), (10, _), (9, _), (8, _), (1, _)], ?_, ⟨rfl, rfl, rfl, rfl, rfl, rfl, trivial⟩, ⟨i + 1, c, m, B2, R2, C2, rfl, rfl, by omega, hS.sel [2, 0, 3, 1] (by decide), hO2, hA2, hR2.le (by omega), hN2, fc⟩⟩
            omega
    · (conv => whnf)
      refine (boff_ok (hS.blk 0 rfl) hO.len).mono ?_
      rintro v w' ⟨hx', hB⟩
      replace hS := hS.upd 0 rfl hx' (fun c hc => by subst hc; exact List.mem_singleton.2 rfl) (blk_local _ _ _) hB (fun c hc => .inl hc)
      clear hx' hB
      (conv => whnf)
      refine hS.st 1 rfl (Nat.le_of_ble_eq_true rfl) rfl (fun w' hS => ?_)
      have hO4 : BOk ⟨B.data, true, B.left⟩ := ⟨hO.len, hO.lo, hO.hi⟩
      have hA4 : Alike ⟨R.data, true, R.left, R.bnd⟩ ⟨B.data, true, B.left⟩ := ⟨hA.data, rfl, hA.left, hA.free⟩
      have hR4 : ROk ⟨R.data, true, R.left, R.bnd⟩ (18 * i) := ⟨hR.len, hR.bnd, hR.lo, hR.hi⟩
      replace hS : St W No w' [blk b 124 (encBy ⟨B.data, true, B.left⟩), blk n 91 (encRB ⟨R.data, true, R.left, R.bnd⟩), blk ba 83 (encP a), blk c 126 (encCl b C), blk m 96 (encCl n C)] := hS
      generalize hg2 : (⟨B.data, true, B.left⟩ : BytS) = B4 at hS hO4 hA4
      generalize (⟨R.data, true, R.left, R.bnd⟩ : RBy) = R4 at hS hA4 hR4
      have ho4 : B4.off = true := by rw [← hg2]
      (conv => whnf)
      refine (copen_off (hS.blk 0 rfl) hO4.len ho4 ((hE.sub rfl).ext hS.ext fun _ h => h.elim)).mono ?_
      rintro v w' ⟨rfl, hx'⟩
      replace hS := hS.no hx'
      clear hx'
      (conv => whnf)
      refine (coded2_same 7 (by decide) _ (hE.ext hS.ext fun _ h => h.elim) (hh.ext hS.ext)).mono ?_
      rintro v w' ⟨rfl, hx'⟩
      replace hS := hS.no hx'
      clear hx'
      (conv => whnf)
      refine hS.ld 2 rfl rfl ?_
      cases hon : a.on
      · skip
        (conv => whnf)
        refine hS.ld 2 rfl rfl ?_
        (conv => whnf)
        refine brD (fun h7 => ?_) (fun h7 => ?_)
        · (conv => whnf)
          have hO1 := cut_ok hO4 a.cut hok.2.2
          have hA1 := cut_alike hA4 a.cut
          have hR1 := cut_rok hR4 a.cut hok.2.2
          (refine drawS tabOk mixed [] (fun d => d = b ∨ d = n) [0, 1, 2, 4, 5, 6, 3, 7, 8, 9] (by kernel_rfl) ?_; rintro w1 rfl; replace hS := hS.drew)
          (conv => whnf)
          refine hS.ldF 2 rfl rfl nt2 ?_
          (conv => whnf)
          refine hS.ldF 2 rfl rfl nt2 ?_
          (conv => whnf)
          refine (bcut_ok a.cut (hS.blk 0 rfl) hO4.len ((hE.sub rfl).ext hS.ext fun _ h => h.elim) fb).mono ?_
          rintro v w1 ⟨rfl, hx1, hB1⟩
          replace hS := hS.upd 0 rfl hx1 (fun c hc => by subst hc; exact List.mem_singleton.2 rfl) (blk_local _ _ _) hB1 (fun c hc => .inl hc)
          refine KeepC.mk (hx1.mono fun d h => .inl h) ?_
          (conv => whnf)
          refine (rbcut_ok a.cut (hS.blk 1 rfl)).mono ?_
          rintro v w2 ⟨rfl, hx2, hB2⟩
          replace hS := hS.upd 1 rfl hx2 (fun c hc => by subst hc; exact List.mem_singleton.2 rfl) (blk_local _ _ _) hB2 (fun c hc => .inl hc)
          refine KeepC.mk ((hx1.mono fun d h => .inl h).trans (hx2.mono fun d h => .inr h)) ?_
          rw [hA4.off]
          have hc12 : (if a.cut < 0 then 2 else if BytS.off B4 = true then 7 else 0 : Nat) < 12 := by split <;> (try split) <;> omega
          generalize (if a.cut < 0 then 2 else if BytS.off B4 = true then 7 else 0 : Nat) = code at hc12
          (conv => whnf)
          refine (coded2_same code hc12 _ (hE.ext hS.ext fun _ h => h.elim) (hh.ext hS.ext)).mono ?_
          rintro v w3 ⟨rfl, hx3⟩
          replace hS := hS.no hx3
          refine KeepC.mk (((hx1.mono fun d h => .inl h).trans (hx2.mono fun d h => .inr h)).trans hx3.of_no) ?_
          clear hx1 hx2 hx3 hB1 hB2
          (conv => whnf)
          generalize (if a.cut < 0 ∨ BytS.off B4 = true then B4 else ⟨BytS.data B4, BytS.off B4, a.cut⟩) = B3 at hS hO1 hA1
          generalize (if a.cut < 0 ∨ RBy.off R4 = true then R4 else ⟨RBy.data R4, RBy.off R4, a.cut, true⟩) = R3 at hS hA1 hR1
          (conv => whnf)
          refine DrawC.cut (fun σ w => ∃ (B2 : BytS) (R2 : RBy) (C2 : CelS), σ = [(185, .bool false), (13, .int .i64 i), (12, .pointer (some ⟨m, 0, none⟩)), (10, .pointer (some ⟨c, 0, none⟩)), (9, .pointer (some ⟨n, 0, none⟩)), (8, .pointer (some ⟨b, 0, none⟩)), (1, .slice (some ⟨b0, o0, none⟩) n0 c0)] ∧ BOk B2 ∧ Alike R2 B2 ∧ ROk R2 (18 * i + 18) ∧ C2.num < 4294967296 ∧ St W No w [blk n 91 (encRB R2), blk m 96 (encCl n C2), blk b 124 (encBy B2), blk c 126 (encCl b C2)]) ?_ ?_
          · skip
            refine drawT tabOk mixed [20, 29] (fun d => d = b ∨ d = c ∨ d = n ∨ d = m) (.take 0 (.take 1 (.take 2 (.take 3 (.take 4 (.take 6 (.take 7 (.take 8 (.take 9 (.take 10 (.alt 5 (.alt 11 (.alt 12 (.take 13 (.take 14 (.take 15 (.take 17 (.take 18 (.take 19 (.alt 16 (.alt 20 (.take 21 (.take 22 (.take 23 (.take 24 (.take 26 (.take 27 (.take 28 (.alt 25 (.alt 29 (.take 30 (.take 31 .fin)) .fin) (.alt 29 (.alt 25 (.take 30 (.take 31 .fin)) .fin) .fin))))))))) .fin) (.alt 20 (.alt 16 (.take 21 (.take 22 (.take 23 (.take 24 (.take 26 (.take 27 (.take 28 (.alt 25 (.alt 29 (.take 30 (.take 31 .fin)) .fin) (.alt 29 (.alt 25 (.take 30 (.take 31 .fin)) .fin) .fin))))))))) .fin) .fin)))))))) .fin) .fin) .fin))))))))))) (by kernel_rfl) ?_
            rintro w1 rfl
            replace hS := hS.drew
            (conv => whnf)
            refine hS.ldF 2 rfl rfl nt ?_
            (conv => whnf)
            refine hS.ldF 2 rfl rfl nt ?_
            (conv => whnf)
            refine hS.ldF 2 rfl rfl nt ?_
            (conv => whnf)
            refine hS.ldF 2 rfl rfl nt ?_
            (conv => whnf)
            refine (cput_ok a.ep a.li (hS.blk 3 rfl) (hS.blk 0 rfl) hO1 hN ((hE.sub rfl).ext hS.ext fun _ h => h.elim) fb fc).mono ?_
            rintro v w1 ⟨rfl, hx1, hB1, hC1⟩
            have hs0 := hS.sel [0, 3, 2, 1, 4] (by decide)
            replace hS : St W No w1 [blk b 124 (encBy (CelS.put C B3 a.ep a.li).2.1), blk c 126 (encCl b (CelS.put C B3 a.ep a.li).2.2), blk ba 83 (encP a), blk n 91 (encRB R3), blk m 96 (encCl n C)] := Ev.St.upd2 hs0 hx1 (by simp [blk]) (blk_local _ _ _) hB1 rfl (blk_local _ _ _) hC1 rfl
            have hy1 := hx1.mono (T := fun d => d = b ∨ d = c ∨ d = n ∨ d = m) (fun d h => h.elim .inl fun h => .inr (.inl h))
            refine KeepC.mk hy1 ?_
            (conv => whnf)
            refine (rcput_ok a.ep a.li (hS.blk 4 rfl) (hS.blk 3 rfl) hA1 hO1 hR1 (by omega) hN).mono ?_
            rintro v w2 ⟨rfl, hx2, R2, hA2, hR2, hB2, hC2⟩
            have hs0 := hS.sel [3, 4, 0, 1, 2] (by decide)
            replace hS : St W No w2 [blk n 91 (encRB R2), blk m 96 (encCl n (CelS.put C B3 a.ep a.li).2.2), blk b 124 (encBy (CelS.put C B3 a.ep a.li).2.1), blk c 126 (encCl b (CelS.put C B3 a.ep a.li).2.2), blk ba 83 (encP a)] := Ev.St.upd2 hs0 hx2 (by simp [blk]) (blk_local _ _ _) hB2 rfl (blk_local _ _ _) hC2 rfl
            have hy2 := hx2.mono (T := fun d => d = b ∨ d = c ∨ d = n ∨ d = m) (fun d h => h.elim (fun h => .inr (.inr (.inl h))) fun h => .inr (.inr (.inr h)))
            refine KeepC.mk (hy1.trans hy2) ?_
            have hcd := put_code C B3 a.ep a.li
            have hN2 := put_num C B3 a.ep a.li hN
            have hO2 := put_ok C B3 a.ep a.li hO1
            clear hB1 hC1 hB2 hC2 hs0
            generalize CelS.put C B3 a.ep a.li = Q at hS hcd hN2 hO2 hA2 ⊢
            obtain ⟨code, B2, C2⟩ := Q
            dsimp only at hS hcd hN2 hO2 hA2 ⊢
            (conv => whnf)
            refine (coded2_same code hcd _ (hE.ext hS.ext fun _ h => h.elim) (hh.ext hS.ext)).mono ?_
            rintro v w3 ⟨rfl, hx3⟩
            replace hS := hS.no hx3
            refine KeepC.mk ((hy1.trans hy2).trans hx3.of_no) ?_
            have hK := (hy1.trans hy2).trans (hx3.of_no (S := fun d => d = b ∨ d = c ∨ d = n ∨ d = m))
            clear hy1 hy2 hx1 hx2 hx3
            repeat' ((conv => whnf); first | refine And.intro ?_ ?_ | (refine hS.ld 1 rfl rfl ?_; refine KeepC.mk hK ?_) | (refine (cepoch_ok (hS.blk 3 rfl)).mono ?_; rintro v w' ⟨rfl, hx'⟩; replace hS := hS.no hx'; replace hK := hK.trans hx'.of_no; clear hx'; refine KeepC.mk hK ?_) | (refine (clife_ok (hS.blk 3 rfl)).mono ?_; rintro v w' ⟨rfl, hx'⟩; replace hS := hS.no hx'; replace hK := hK.trans hx'.of_no; clear hx'; refine KeepC.mk hK ?_) | refine brND (fun h => absurd rfl h) (fun _ => ?_))
            all_goals (conv => whnf)
            all_goals rw [show ((C2.li : Int) != (C2.li : Int)) = false by simp]
            all_goals exact CutE.mk ⟨[(185, .bool false), (13, _), (12, _), (10, _), (9, _), (8, _), (1, _)], ⟨rfl, rfl, rfl, rfl, rfl, rfl, rfl, trivial⟩, ⟨B2, R2, C2, rfl, hO2, hA2, hR2, hN2, hS.keep 4⟩⟩
          clear hS
          rintro _ w ⟨B2, R2, C2, rfl, hO2, hA2, hR2, hN2, hS⟩
          (conv => whnf)
          (refine drawS tabOk mixed [] (No) [0, 2, 3, 4, 5, 1, 6, 7, 8, 10, 11, 12, 13, 9, 14, 15] (by kernel_rfl) ?_; rintro w1 rfl; replace hS := hS.drew)
          (conv => whnf)
          refine hS.ldF 0 rfl rfl id ?_
          (conv => whnf)
          refine (ball_ok (hS.blk 2 rfl) hO2.len).mono ?_
          rintro v w6 ⟨rfl, hx6⟩
          have hS2 := hS.no hx6
          refine KeepC.mk hx6 ?_
          (conv => whnf)
          refine neS2 ?_
          rw [hA2.data]
          (conv => whnf)
          refine brND (fun h => absurd rfl h) (fun _ => ?_)
          (conv => whnf)
          refine hS.ldF 0 rfl rfl id ?_
          (conv => whnf)
          refine (bpower_ok (hS2.blk 2 rfl) hO2.len).mono ?_
          rintro v w7 ⟨rfl, hx7⟩
          replace hS := hS2.no hx7
          refine KeepC.mk (hx6.trans hx7) ?_
          clear hS2 hx6 hx7
          rw [hA2.off]
          (conv => whnf)
          rw [show ((!B2.off) == B2.off) = false by cases B2.off <;> rfl]
          (conv => whnf)
          refine RngC.mk (by omega) (by omega) ?_
          (conv => whnf)
          refine LoopE.mk ⟨_, [(13, .int .i64 ((i + 1 : Nat) : Int)), (12, _), (10, _), (9, _), (8, _), (1, _)], ?_, ⟨rfl, rfl, rfl, rfl, rfl, rfl, trivial⟩, ⟨i + 1, c, m, B2, R2, C2, rfl, rfl, by omega, hS.sel [2, 0, 3, 1] (by decide), hO2, hA2, hR2.le (by omega), hN2, fc⟩⟩
          omega
        · (conv => whnf)
          refine hS.ld 2 rfl rfl ?_
          (conv => whnf)
          refine brD (fun h8 => ?_) (fun h8 => ?_)
          · (conv => whnf)
            have hO1 := cut_ok hO4 a.cut hok.2.2
            have hA1 := cut_alike hA4 a.cut
            have hR1 := cut_rok hR4 a.cut hok.2.2
            (refine drawS tabOk mixed [] (fun d => d = b ∨ d = n) [0, 1, 2, 4, 5, 6, 3, 7, 8, 9] (by kernel_rfl) ?_; rintro w1 rfl; replace hS := hS.drew)
            (conv => whnf)
            refine hS.ldF 2 rfl rfl nt2 ?_
            (conv => whnf)
            refine hS.ldF 2 rfl rfl nt2 ?_
            (conv => whnf)
            refine (bcut_ok a.cut (hS.blk 0 rfl) hO4.len ((hE.sub rfl).ext hS.ext fun _ h => h.elim) fb).mono ?_
            rintro v w1 ⟨rfl, hx1, hB1⟩
            replace hS := hS.upd 0 rfl hx1 (fun c hc => by subst hc; exact List.mem_singleton.2 rfl) (blk_local _ _ _) hB1 (fun c hc => .inl hc)
            refine KeepC.mk (hx1.mono fun d h => .inl h) ?_
            (conv => whnf)
            refine (rbcut_ok a.cut (hS.blk 1 rfl)).mono ?_
            rintro v w2 ⟨rfl, hx2, hB2⟩
            replace hS := hS.upd 1 rfl hx2 (fun c hc => by subst hc; exact List.mem_singleton.2 rfl) (blk_local _ _ _) hB2 (fun c hc => .inl hc)
            refine KeepC.mk ((hx1.mono fun d h => .inl h).trans (hx2.mono fun d h => .inr h)) ?_
            rw [hA4.off]
            have hc12 : (if a.cut < 0 then 2 else if BytS.off B4 = true then 7 else 0 : Nat) < 12 := by split <;> (try split) <;> omega
            generalize (if a.cut < 0 then 2 else if BytS.off B4 = true then 7 else 0 : Nat) = code at hc12
            (conv => whnf)
            refine (coded2_same code hc12 _ (hE.ext hS.ext fun _ h => h.elim) (hh.ext hS.ext)).mono ?_
            rintro v w3 ⟨rfl, hx3⟩
            replace hS := hS.no hx3
            refine KeepC.mk (((hx1.mono fun d h => .inl h).trans (hx2.mono fun d h => .inr h)).trans hx3.of_no) ?_
            clear hx1 hx2 hx3 hB1 hB2
            (conv => whnf)
            generalize (if a.cut < 0 ∨ BytS.off B4 = true then B4 else ⟨BytS.data B4, BytS.off B4, a.cut⟩) = B3 at hS hO1 hA1
            generalize (if a.cut < 0 ∨ RBy.off R4 = true then R4 else ⟨RBy.data R4, RBy.off R4, a.cut, true⟩) = R3 at hS hA1 hR1
            (conv => whnf)
            refine DrawC.cut (fun σ w => ∃ (B2 : BytS) (R2 : RBy) (C2 : CelS), σ = [(185, .bool false), (13, .int .i64 i), (12, .pointer (some ⟨m, 0, none⟩)), (10, .pointer (some ⟨c, 0, none⟩)), (9, .pointer (some ⟨n, 0, none⟩)), (8, .pointer (some ⟨b, 0, none⟩)), (1, .slice (some ⟨b0, o0, none⟩) n0 c0)] ∧ BOk B2 ∧ Alike R2 B2 ∧ ROk R2 (18 * i + 18) ∧ C2.num < 4294967296 ∧ St W No w [blk n 91 (encRB R2), blk m 96 (encCl n C2), blk b 124 (encBy B2), blk c 126 (encCl b C2)]) ?_ ?_
            · skip
              refine drawT tabOk mixed [20, 29] (fun d => d = b ∨ d = c ∨ d = n ∨ d = m) (.take 0 (.take 1 (.take 2 (.take 3 (.take 4 (.take 6 (.take 7 (.take 8 (.take 9 (.take 10 (.alt 5 (.alt 11 (.alt 12 (.take 13 (.take 14 (.take 15 (.take 17 (.take 18 (.take 19 (.alt 16 (.alt 20 (.take 21 (.take 22 (.take 23 (.take 24 (.take 26 (.take 27 (.take 28 (.alt 25 (.alt 29 (.take 30 (.take 31 .fin)) .fin) (.alt 29 (.alt 25 (.take 30 (.take 31 .fin)) .fin) .fin))))))))) .fin) (.alt 20 (.alt 16 (.take 21 (.take 22 (.take 23 (.take 24 (.take 26 (.take 27 (.take 28 (.alt 25 (.alt 29 (.take 30 (.take 31 .fin)) .fin) (.alt 29 (.alt 25 (.take 30 (.take 31 .fin)) .fin) .fin))))))))) .fin) .fin)))))))) .fin) .fin) .fin))))))))))) (by kernel_rfl) ?_
              rintro w1 rfl
              replace hS := hS.drew
              (conv => whnf)
              refine hS.ldF 2 rfl rfl nt ?_
              (conv => whnf)
              refine hS.ldF 2 rfl rfl nt ?_
              (conv => whnf)
              refine hS.ldF 2 rfl rfl nt ?_
              (conv => whnf)
              refine hS.ldF 2 rfl rfl nt ?_
              (conv => whnf)
              refine (cput_ok a.ep a.li (hS.blk 3 rfl) (hS.blk 0 rfl) hO1 hN ((hE.sub rfl).ext hS.ext fun _ h => h.elim) fb fc).mono ?_
              rintro v w1 ⟨rfl, hx1, hB1, hC1⟩
              have hs0 := hS.sel [0, 3, 2, 1, 4] (by decide)
              replace hS : St W No w1 [blk b 124 (encBy (CelS.put C B3 a.ep a.li).2.1), blk c 126 (encCl b (CelS.put C B3 a.ep a.li).2.2), blk ba 83 (encP a), blk n 91 (encRB R3), blk m 96 (encCl n C)] := Ev.St.upd2 hs0 hx1 (by simp [blk]) (blk_local _ _ _) hB1 rfl (blk_local _ _ _) hC1 rfl
              have hy1 := hx1.mono (T := fun d => d = b ∨ d = c ∨ d = n ∨ d = m) (fun d h => h.elim .inl fun h => .inr (.inl h))
              refine KeepC.mk hy1 ?_
              (conv => whnf)
              refine (rcput_ok a.ep a.li (hS.blk 4 rfl) (hS.blk 3 rfl) hA1 hO1 hR1 (by omega) hN).mono ?_
              rintro v w2 ⟨rfl, hx2, R2, hA2, hR2, hB2, hC2⟩
              have hs0 := hS.sel [3, 4, 0, 1, 2] (by decide)
              replace hS : St W No w2 [blk n 91 (encRB R2), blk m 96 (encCl n (CelS.put C B3 a.ep a.li).2.2), blk b 124 (encBy (CelS.put C B3 a.ep a.li).2.1), blk c 126 (encCl b (CelS.put C B3 a.ep a.li).2.2), blk ba 83 (encP a)] := Ev.St.upd2 hs0 hx2 (by simp [blk]) (blk_local _ _ _) hB2 rfl (blk_local _ _ _) hC2 rfl
              have hy2 := hx2.mono (T := fun d => d = b ∨ d = c ∨ d = n ∨ d = m) (fun d h => h.elim (fun h => .inr (.inr (.inl h))) fun h => .inr (.inr (.inr h)))
              refine KeepC.mk (hy1.trans hy2) ?_
              have hcd := put_code C B3 a.ep a.li
              have hN2 := put_num C B3 a.ep a.li hN
              have hO2 := put_ok C B3 a.ep a.li hO1
              clear hB1 hC1 hB2 hC2 hs0
              generalize CelS.put C B3 a.ep a.li = Q at hS hcd hN2 hO2 hA2 ⊢
              obtain ⟨code, B2, C2⟩ := Q
              dsimp only at hS hcd hN2 hO2 hA2 ⊢
              (conv => whnf)
              refine (coded2_same code hcd _ (hE.ext hS.ext fun _ h => h.elim) (hh.ext hS.ext)).mono ?_
              rintro v w3 ⟨rfl, hx3⟩
              replace hS := hS.no hx3
              refine KeepC.mk ((hy1.trans hy2).trans hx3.of_no) ?_
              have hK := (hy1.trans hy2).trans (hx3.of_no (S := fun d => d = b ∨ d = c ∨ d = n ∨ d = m))
              clear hy1 hy2 hx1 hx2 hx3
              repeat' ((conv => whnf); first | refine And.intro ?_ ?_ | (refine hS.ld 1 rfl rfl ?_; refine KeepC.mk hK ?_) | (refine (cepoch_ok (hS.blk 3 rfl)).mono ?_; rintro v w' ⟨rfl, hx'⟩; replace hS := hS.no hx'; replace hK := hK.trans hx'.of_no; clear hx'; refine KeepC.mk hK ?_) | (refine (clife_ok (hS.blk 3 rfl)).mono ?_; rintro v w' ⟨rfl, hx'⟩; replace hS := hS.no hx'; replace hK := hK.trans hx'.of_no; clear hx'; refine KeepC.mk hK ?_) | refine brND (fun h => absurd rfl h) (fun _ => ?_))
              all_goals (conv => whnf)
              all_goals rw [show ((C2.li : Int) != (C2.li : Int)) = false by simp]
              all_goals exact CutE.mk ⟨[(185, .bool false), (13, _), (12, _), (10, _), (9, _), (8, _), (1, _)], ⟨rfl, rfl, rfl, rfl, rfl, rfl, rfl, trivial⟩, ⟨B2, R2, C2, rfl, hO2, hA2, hR2, hN2, hS.keep 4⟩⟩
            clear hS
            rintro _ w ⟨B2, R2, C2, rfl, hO2, hA2, hR2, hN2, hS⟩
            (conv => whnf)
            (refine drawS tabOk mixed [] (No) [0, 2, 3, 4, 5, 1, 6, 7, 8, 10, 11, 12, 13, 9, 14, 15] (by kernel_rfl) ?_; rintro w1 rfl; replace hS := hS.drew)
            (conv => whnf)
            refine hS.ldF 0 rfl rfl id ?_
            (conv => whnf)
            refine (ball_ok (hS.blk 2 rfl) hO2.len).mono ?_
            rintro v w6 ⟨rfl, hx6⟩
            have hS2 := hS.no hx6
            refine KeepC.mk hx6 ?_
            (conv => whnf)
            refine neS2 ?_
            rw [hA2.data]
            (conv => whnf)
            refine brND (fun h => absurd rfl h) (fun _ => ?_)
            (conv => whnf)
            refine hS.ldF 0 rfl rfl id ?_
            (conv => whnf)
            refine (bpower_ok (hS2.blk 2 rfl) hO2.len).mono ?_
            rintro v w7 ⟨rfl, hx7⟩
            replace hS := hS2.no hx7
            refine KeepC.mk (hx6.trans hx7) ?_
            clear hS2 hx6 hx7
            rw [hA2.off]
            (conv => whnf)
            rw [show ((!B2.off) == B2.off) = false by cases B2.off <;> rfl]
            (conv => whnf)
            refine RngC.mk (by omega) (by omega) ?_
            (conv => whnf)
            refine LoopE.mk ⟨_, [(13, .int .i64 ((i + 1 : Nat) : Int)), (12, _), (10, _), (9, _), (8, _), (1, _)], ?_, ⟨rfl, rfl, rfl, rfl, rfl, rfl, trivial⟩, ⟨i + 1, c, m, B2, R2, C2, rfl, rfl, by omega, hS.sel [2, 0, 3, 1] (by decide), hO2, hA2, hR2.le (by omega), hN2, fc⟩⟩
            omega
          · skip
            (conv => whnf)
            refine DrawC.cut (fun σ w => ∃ (B2 : BytS) (R2 : RBy) (C2 : CelS), σ = [(185, .bool false), (13, .int .i64 i), (12, .pointer (some ⟨m, 0, none⟩)), (10, .pointer (some ⟨c, 0, none⟩)), (9, .pointer (some ⟨n, 0, none⟩)), (8, .pointer (some ⟨b, 0, none⟩)), (1, .slice (some ⟨b0, o0, none⟩) n0 c0)] ∧ BOk B2 ∧ Alike R2 B2 ∧ ROk R2 (18 * i + 18) ∧ C2.num < 4294967296 ∧ St W No w [blk n 91 (encRB R2), blk m 96 (encCl n C2), blk b 124 (encBy B2), blk c 126 (encCl b C2)]) ?_ ?_
            · skip
              refine drawT tabOk mixed [20, 29] (fun d => d = b ∨ d = c ∨ d = n ∨ d = m) (.take 0 (.take 1 (.take 2 (.take 3 (.take 4 (.take 6 (.take 7 (.take 8 (.take 9 (.take 10 (.alt 5 (.alt 11 (.alt 12 (.take 13 (.take 14 (.take 15 (.take 17 (.take 18 (.take 19 (.alt 16 (.alt 20 (.take 21 (.take 22 (.take 23 (.take 24 (.take 26 (.take 27 (.take 28 (.alt 25 (.alt 29 (.take 30 (.take 31 .fin)) .fin) (.alt 29 (.alt 25 (.take 30 (.take 31 .fin)) .fin) .fin))))))))) .fin) (.alt 20 (.alt 16 (.take 21 (.take 22 (.take 23 (.take 24 (.take 26 (.take 27 (.take 28 (.alt 25 (.alt 29 (.take 30 (.take 31 .fin)) .fin) (.alt 29 (.alt 25 (.take 30 (.take 31 .fin)) .fin) .fin))))))))) .fin) .fin)))))))) .fin) .fin) .fin))))))))))) (by kernel_rfl) ?_
              rintro w1 rfl
              replace hS := hS.drew
              (conv => whnf)
              refine hS.ldF 2 rfl rfl nt ?_
              (conv => whnf)
              refine hS.ldF 2 rfl rfl nt ?_
              (conv => whnf)
              refine hS.ldF 2 rfl rfl nt ?_
              (conv => whnf)
              refine hS.ldF 2 rfl rfl nt ?_
              (conv => whnf)
              refine (cput_ok a.ep a.li (hS.blk 3 rfl) (hS.blk 0 rfl) hO4 hN ((hE.sub rfl).ext hS.ext fun _ h => h.elim) fb fc).mono ?_
              rintro v w1 ⟨rfl, hx1, hB1, hC1⟩
              have hs0 := hS.sel [0, 3, 2, 1, 4] (by decide)
              replace hS : St W No w1 [blk b 124 (encBy (CelS.put C B4 a.ep a.li).2.1), blk c 126 (encCl b (CelS.put C B4 a.ep a.li).2.2), blk ba 83 (encP a), blk n 91 (encRB R4), blk m 96 (encCl n C)] := Ev.St.upd2 hs0 hx1 (by simp [blk]) (blk_local _ _ _) hB1 rfl (blk_local _ _ _) hC1 rfl
              have hy1 := hx1.mono (T := fun d => d = b ∨ d = c ∨ d = n ∨ d = m) (fun d h => h.elim .inl fun h => .inr (.inl h))
              refine KeepC.mk hy1 ?_
              (conv => whnf)
              refine (rcput_ok a.ep a.li (hS.blk 4 rfl) (hS.blk 3 rfl) hA4 hO4 hR4 (by omega) hN).mono ?_
              rintro v w2 ⟨rfl, hx2, R2, hA2, hR2, hB2, hC2⟩
              have hs0 := hS.sel [3, 4, 0, 1, 2] (by decide)
              replace hS : St W No w2 [blk n 91 (encRB R2), blk m 96 (encCl n (CelS.put C B4 a.ep a.li).2.2), blk b 124 (encBy (CelS.put C B4 a.ep a.li).2.1), blk c 126 (encCl b (CelS.put C B4 a.ep a.li).2.2), blk ba 83 (encP a)] := Ev.St.upd2 hs0 hx2 (by simp [blk]) (blk_local _ _ _) hB2 rfl (blk_local _ _ _) hC2 rfl
              have hy2 := hx2.mono (T := fun d => d = b ∨ d = c ∨ d = n ∨ d = m) (fun d h => h.elim (fun h => .inr (.inr (.inl h))) fun h => .inr (.inr (.inr h)))
              refine KeepC.mk (hy1.trans hy2) ?_
              have hcd := put_code C B4 a.ep a.li
              have hN2 := put_num C B4 a.ep a.li hN
              have hO2 := put_ok C B4 a.ep a.li hO4
              clear hB1 hC1 hB2 hC2 hs0
              generalize CelS.put C B4 a.ep a.li = Q at hS hcd hN2 hO2 hA2 ⊢
              obtain ⟨code, B2, C2⟩ := Q
              dsimp only at hS hcd hN2 hO2 hA2 ⊢
              (conv => whnf)
              refine (coded2_same code hcd _ (hE.ext hS.ext fun _ h => h.elim) (hh.ext hS.ext)).mono ?_
              rintro v w3 ⟨rfl, hx3⟩
              replace hS := hS.no hx3
              refine KeepC.mk ((hy1.trans hy2).trans hx3.of_no) ?_
              have hK := (hy1.trans hy2).trans (hx3.of_no (S := fun d => d = b ∨ d = c ∨ d = n ∨ d = m))
              clear hy1 hy2 hx1 hx2 hx3
              repeat' ((conv => whnf); first | refine And.intro ?_ ?_ | (refine hS.ld 1 rfl rfl ?_; refine KeepC.mk hK ?_) | (refine (cepoch_ok (hS.blk 3 rfl)).mono ?_; rintro v w' ⟨rfl, hx'⟩; replace hS := hS.no hx'; replace hK := hK.trans hx'.of_no; clear hx'; refine KeepC.mk hK ?_) | (refine (clife_ok (hS.blk 3 rfl)).mono ?_; rintro v w' ⟨rfl, hx'⟩; replace hS := hS.no hx'; replace hK := hK.trans hx'.of_no; clear hx'; refine KeepC.mk hK ?_) | refine brND (fun h => absurd rfl h) (fun _ => ?_))
              all_goals (conv => whnf)
              all_goals rw [show ((C2.li : Int) != (C2.li : Int)) = false by simp]
              all_goals exact CutE.mk ⟨[(185, .bool false), (13, _), (12, _), (10, _), (9, _), (8, _), (1, _)], ⟨rfl, rfl, rfl, rfl, rfl, rfl, rfl, trivial⟩, ⟨B2, R2, C2, rfl, hO2, hA2, hR2, hN2, hS.keep 4⟩⟩
            clear hS
            rintro _ w ⟨B2, R2, C2, rfl, hO2, hA2, hR2, hN2, hS⟩
            (conv => whnf)
            (refine drawS tabOk mixed [] (No) [0, 2, 3, 4, 5, 1, 6, 7, 8, 10, 11, 12, 13, 9, 14, 15] (by kernel_rfl) ?_; rintro w1 rfl; replace hS := hS.drew)
            (conv => whnf)
            refine hS.ldF 0 rfl rfl id ?_
            (conv => whnf)
            refine (ball_ok (hS.blk 2 rfl) hO2.len).mono ?_
            rintro v w6 ⟨rfl, hx6⟩
            have hS2 := hS.no hx6
            refine KeepC.mk hx6 ?_
            (conv => whnf)
            refine neS2 ?_
            rw [hA2.data]
            (conv => whnf)
            refine brND (fun h => absurd rfl h) (fun _ => ?_)
            (conv => whnf)
            refine hS.ldF 0 rfl rfl id ?_
            (conv => whnf)
            refine (bpower_ok (hS2.blk 2 rfl) hO2.len).mono ?_
            rintro v w7 ⟨rfl, hx7⟩
            replace hS := hS2.no hx7
            refine KeepC.mk (hx6.trans hx7) ?_
            clear hS2 hx6 hx7
            rw [hA2.off]
            (conv => whnf)
            rw [show ((!B2.off) == B2.off) = false by cases B2.off <;> rfl]
            (conv => whnf)
            refine RngC.mk (by omega) (by omega) ?_
            (conv => whnf)
            refine LoopE.mk ⟨_, [(13, .int .i64 ((i + 1 : Nat) : Int)), (12, _), (10, _), (9, _), (8, _), (1, _)], ?_, ⟨rfl, rfl, rfl, rfl, rfl, rfl, trivial⟩, ⟨i + 1, c, m, B2, R2, C2, rfl, rfl, by omega, hS.sel [2, 0, 3, 1] (by decide), hO2, hA2, hR2.le (by omega), hN2, fc⟩⟩
            omega
      · (conv => whnf)
        refine (bon_ok (hS.blk 0 rfl) hO4.len).mono ?_
        rintro v w' ⟨hx', hB⟩
        replace hS := hS.upd 0 rfl hx' (fun c hc => by subst hc; exact List.mem_singleton.2 rfl) (blk_local _ _ _) hB (fun c hc => .inl hc)
        clear hx' hB
        (conv => whnf)
        refine (rbon_ok (hS.blk 1 rfl)).mono ?_
        rintro v w' ⟨hx', hB⟩
        replace hS := hS.upd 1 rfl hx' (fun c hc => by subst hc; exact List.mem_singleton.2 rfl) (blk_local _ _ _) hB (fun c hc => .inl hc)
        clear hx' hB
        have hO5 : BOk ⟨BytS.data B4, false, -1⟩ := ⟨hO4.len, by dsimp only; omega, by dsimp only; omega⟩
        have hA5 := on_alike hA4
        have hR5 : ROk ⟨RBy.data R4, false, RBy.left R4, false⟩ (18 * i) := ⟨hR4.len, fun h => absurd h (by simp), hR4.lo, hR4.hi⟩
        generalize hg1 : (⟨BytS.data B4, false, -1⟩ : BytS) = B5 at hS hO5 hA5
        generalize (⟨RBy.data R4, false, RBy.left R4, false⟩ : RBy) = R5 at hS hA5 hR5
        have ho5 : B5.off = false := by rw [← hg1]
        (conv => whnf)
        refine (copen_ok (hS.blk 0 rfl) hO5.len ho5).mono ?_
        rintro v w' ⟨c2, rfl, hc2, hx', hB⟩
        replace hS := hS.made hx' (blk_local _ _ _) hB (by simp [blk]; exact ⟨hc2, hB.lt⟩)
        clear hx' hB hc2
        have fc2 := hS.fresh 5 rfl
        (conv => whnf)
        refine (ropen_ok (hS.blk 1 rfl) hR5.len).mono ?_
        rintro v w' ⟨m2, rfl, hm2, hx', hB⟩
        rw [hA5.data] at hB
        replace hS := hS.made hx' (blk_local _ _ _) hB (by simp [blk]; exact ⟨hm2, hB.lt⟩)
        clear hx' hB hm2
        have nt3 : ¬ (ba = b ∨ ba = c2 ∨ ba = n ∨ ba = m2) := by
          have e1 := hS.ne 2 0 rfl rfl (by decide)
          have e2 := hS.ne 2 1 rfl rfl (by decide)
          have e3 := hS.ne 2 5 rfl rfl (by decide)
          have e4 := hS.ne 2 6 rfl rfl (by decide)
          omega
        have hN3 : (openS B5.data).num < 4294967296 := (openN_lt B5.data 2).1
        replace hS : St W No w' [blk b 124 (encBy B5), blk n 91 (encRB R5), blk ba 83 (encP a), blk c2 126 (encCl b (openS B5.data)), blk m2 96 (encCl n (openS B5.data))] := hS.sel [0, 1, 2, 5, 6] (by decide)
        generalize openS B5.data = C5 at hS hN3
        clear hN fc nt
        clear hm0c
        obtain ⟨c, rfl⟩ : ∃ x, x = c2 := ⟨_, rfl⟩
        obtain ⟨m, rfl⟩ : ∃ x, x = m2 := ⟨_, rfl⟩
        obtain ⟨C, rfl⟩ : ∃ x, x = C5 := ⟨_, rfl⟩
        have hN := hN3
        have fc := fc2
        have nt := nt3
        (conv => whnf)
        refine hS.ld 2 rfl rfl ?_
        (conv => whnf)
        refine brD (fun h7 => ?_) (fun h7 => ?_)
        · (conv => whnf)
          have hO1 := cut_ok hO5 a.cut hok.2.2
          have hA1 := cut_alike hA5 a.cut
          have hR1 := cut_rok hR5 a.cut hok.2.2
          (refine drawS tabOk mixed [] (fun d => d = b ∨ d = n) [0, 1, 2, 4, 5, 6, 3, 7, 8, 9] (by kernel_rfl) ?_; rintro w1 rfl; replace hS := hS.drew)
          (conv => whnf)
          refine hS.ldF 2 rfl rfl nt2 ?_
          (conv => whnf)
          refine hS.ldF 2 rfl rfl nt2 ?_
          (conv => whnf)
          refine (bcut_ok a.cut (hS.blk 0 rfl) hO5.len ((hE.sub rfl).ext hS.ext fun _ h => h.elim) fb).mono ?_
          rintro v w1 ⟨rfl, hx1, hB1⟩
          replace hS := hS.upd 0 rfl hx1 (fun c hc => by subst hc; exact List.mem_singleton.2 rfl) (blk_local _ _ _) hB1 (fun c hc => .inl hc)
          refine KeepC.mk (hx1.mono fun d h => .inl h) ?_
          (conv => whnf)
          refine (rbcut_ok a.cut (hS.blk 1 rfl)).mono ?_
          rintro v w2 ⟨rfl, hx2, hB2⟩
          replace hS := hS.upd 1 rfl hx2 (fun c hc => by subst hc; exact List.mem_singleton.2 rfl) (blk_local _ _ _) hB2 (fun c hc => .inl hc)
          refine KeepC.mk ((hx1.mono fun d h => .inl h).trans (hx2.mono fun d h => .inr h)) ?_
          rw [hA5.off]
          have hc12 : (if a.cut < 0 then 2 else if BytS.off B5 = true then 7 else 0 : Nat) < 12 := by split <;> (try split) <;> omega
          generalize (if a.cut < 0 then 2 else if BytS.off B5 = true then 7 else 0 : Nat) = code at hc12
          (conv => whnf)
          refine (coded2_same code hc12 _ (hE.ext hS.ext fun _ h => h.elim) (hh.ext hS.ext)).mono ?_
          rintro v w3 ⟨rfl, hx3⟩
          replace hS := hS.no hx3
          refine KeepC.mk (((hx1.mono fun d h => .inl h).trans (hx2.mono fun d h => .inr h)).trans hx3.of_no) ?_
          clear hx1 hx2 hx3 hB1 hB2
          (conv => whnf)
          generalize (if a.cut < 0 ∨ BytS.off B5 = true then B5 else ⟨BytS.data B5, BytS.off B5, a.cut⟩) = B3 at hS hO1 hA1
          generalize (if a.cut < 0 ∨ RBy.off R5 = true then R5 else ⟨RBy.data R5, RBy.off R5, a.cut, true⟩) = R3 at hS hA1 hR1
          (conv => whnf)
          refine DrawC.cut (fun σ w => ∃ (B2 : BytS) (R2 : RBy) (C2 : CelS), σ = [(185, .bool false), (13, .int .i64 i), (12, .pointer (some ⟨m, 0, none⟩)), (10, .pointer (some ⟨c, 0, none⟩)), (9, .pointer (some ⟨n, 0, none⟩)), (8, .pointer (some ⟨b, 0, none⟩)), (1, .slice (some ⟨b0, o0, none⟩) n0 c0)] ∧ BOk B2 ∧ Alike R2 B2 ∧ ROk R2 (18 * i + 18) ∧ C2.num < 4294967296 ∧ St W No w [blk n 91 (encRB R2), blk m 96 (encCl n C2), blk b 124 (encBy B2), blk c 126 (encCl b C2)]) ?_ ?_
          · skip
            refine drawT tabOk mixed [20, 29] (fun d => d = b ∨ d = c ∨ d = n ∨ d = m) (.take 0 (.take 1 (.take 2 (.take 3 (.take 4 (.take 6 (.take 7 (.take 8 (.take 9 (.take 10 (.alt 5 (.alt 11 (.alt 12 (.take 13 (.take 14 (.take 15 (.take 17 (.take 18 (.take 19 (.alt 16 (.alt 20 (.take 21 (.take 22 (.take 23 (.take 24 (.take 26 (.take 27 (.take 28 (.alt 25 (.alt 29 (.take 30 (.take 31 .fin)) .fin) (.alt 29 (.alt 25 (.take 30 (.take 31 .fin)) .fin) .fin))))))))) .fin) (.alt 20 (.alt 16 (.take 21 (.take 22 (.take 23 (.take 24 (.take 26 (.take 27 (.take 28 (.alt 25 (.alt 29 (.take 30 (.take 31 .fin)) .fin) (.alt 29 (.alt 25 (.take 30 (.take 31 .fin)) .fin) .fin))))))))) .fin) .fin)))))))) .fin) .fin) .fin))))))))))) (by kernel_rfl) ?_
            rintro w1 rfl
            replace hS := hS.drew
            (conv => whnf)
            refine hS.ldF 2 rfl rfl nt ?_
            (conv => whnf)
            refine hS.ldF 2 rfl rfl nt ?_
            (conv => whnf)
            refine hS.ldF 2 rfl rfl nt ?_
            (conv => whnf)
            refine hS.ldF 2 rfl rfl nt ?_
            (conv => whnf)
            refine (cput_ok a.ep a.li (hS.blk 3 rfl) (hS.blk 0 rfl) hO1 hN ((hE.sub rfl).ext hS.ext fun _ h => h.elim) fb fc).mono ?_
            rintro v w1 ⟨rfl, hx1, hB1, hC1⟩
            have hs0 := hS.sel [0, 3, 2, 1, 4] (by decide)
            replace hS : St W No w1 [blk b 124 (encBy (CelS.put C B3 a.ep a.li).2.1), blk c 126 (encCl b (CelS.put C B3 a.ep a.li).2.2), blk ba 83 (encP a), blk n 91 (encRB R3), blk m 96 (encCl n C)] := Ev.St.upd2 hs0 hx1 (by simp [blk]) (blk_local _ _ _) hB1 rfl (blk_local _ _ _) hC1 rfl
            have hy1 := hx1.mono (T := fun d => d = b ∨ d = c ∨ d = n ∨ d = m) (fun d h => h.elim .inl fun h => .inr (.inl h))
            refine KeepC.mk hy1 ?_
            (conv => whnf)
            refine (rcput_ok a.ep a.li (hS.blk 4 rfl) (hS.blk 3 rfl) hA1 hO1 hR1 (by omega) hN).mono ?_
            rintro v w2 ⟨rfl, hx2, R2, hA2, hR2, hB2, hC2⟩
            have hs0 := hS.sel [3, 4, 0, 1, 2] (by decide)
            replace hS : St W No w2 [blk n 91 (encRB R2), blk m 96 (encCl n (CelS.put C B3 a.ep a.li).2.2), blk b 124 (encBy (CelS.put C B3 a.ep a.li).2.1), blk c 126 (encCl b (CelS.put C B3 a.ep a.li).2.2), blk ba 83 (encP a)] := Ev.St.upd2 hs0 hx2 (by simp [blk]) (blk_local _ _ _) hB2 rfl (blk_local _ _ _) hC2 rfl
            have hy2 := hx2.mono (T := fun d => d = b ∨ d = c ∨ d = n ∨ d = m) (fun d h => h.elim (fun h => .inr (.inr (.inl h))) fun h => .inr (.inr (.inr h)))
            refine KeepC.mk (hy1.trans hy2) ?_
            have hcd := put_code C B3 a.ep a.li
            have hN2 := put_num C B3 a.ep a.li hN
            have hO2 := put_ok C B3 a.ep a.li hO1
            clear hB1 hC1 hB2 hC2 hs0
            generalize CelS.put C B3 a.ep a.li = Q at hS hcd hN2 hO2 hA2 ⊢
            obtain ⟨code, B2, C2⟩ := Q
            dsimp only at hS hcd hN2 hO2 hA2 ⊢
            (conv => whnf)
            refine (coded2_same code hcd _ (hE.ext hS.ext fun _ h => h.elim) (hh.ext hS.ext)).mono ?_
            rintro v w3 ⟨rfl, hx3⟩
            replace hS := hS.no hx3
            refine KeepC.mk ((hy1.trans hy2).trans hx3.of_no) ?_
            have hK := (hy1.trans hy2).trans (hx3.of_no (S := fun d => d = b ∨ d = c ∨ d = n ∨ d = m))
            clear hy1 hy2 hx1 hx2 hx3
            repeat' ((conv => whnf); first | refine And.intro ?_ ?_ | (refine hS.ld 1 rfl rfl ?_; refine KeepC.mk hK ?_) | (refine (cepoch_ok (hS.blk 3 rfl)).mono ?_; rintro v w' ⟨rfl, hx'⟩; replace hS := hS.no hx'; replace hK := hK.trans hx'.of_no; clear hx'; refine KeepC.mk hK ?_) | (refine (clife_ok (hS.blk 3 rfl)).mono ?_; rintro v w' ⟨rfl, hx'⟩; replace hS := hS.no hx'; replace hK := hK.trans hx'.of_no; clear hx'; refine KeepC.mk hK ?_) | refine brND (fun h => absurd rfl h) (fun _ => ?_))
            all_goals (conv => whnf)
            all_goals rw [show ((C2.li : Int) != (C2.li : Int)) = false by simp]
            all_goals exact CutE.mk ⟨[(185, .bool false), (13, _), (12, _), (10, _), (9, _), (8, _), (1, _)], ⟨rfl, rfl, rfl, rfl, rfl, rfl, rfl, trivial⟩, ⟨B2, R2, C2, rfl, hO2, hA2, hR2, hN2, hS.keep 4⟩⟩
          clear hS
          rintro _ w ⟨B2, R2, C2, rfl, hO2, hA2, hR2, hN2, hS⟩
          (conv => whnf)
          (refine drawS tabOk mixed [] (No) [0, 2, 3, 4, 5, 1, 6, 7, 8, 10, 11, 12, 13, 9, 14, 15] (by kernel_rfl) ?_; rintro w1 rfl; replace hS := hS.drew)
          (conv => whnf)
          refine hS.ldF 0 rfl rfl id ?_
          (conv => whnf)
          refine (ball_ok (hS.blk 2 rfl) hO2.len).mono ?_
          rintro v w6 ⟨rfl, hx6⟩
          have hS2 := hS.no hx6
          refine KeepC.mk hx6 ?_
          (conv => whnf)
          refine neS2 ?_
          rw [hA2.data]
          (conv => whnf)
          refine brND (fun h => absurd rfl h) (fun _ => ?_)
          (conv => whnf)
          refine hS.ldF 0 rfl rfl id ?_
          (conv => whnf)
          refine (bpower_ok (hS2.blk 2 rfl) hO2.len).mono ?_
          rintro v w7 ⟨rfl, hx7⟩
          replace hS := hS2.no hx7
          refine KeepC.mk (hx6.trans hx7) ?_
          clear hS2 hx6 hx7
          rw [hA2.off]
          (conv => whnf)
          rw [show ((!B2.off) == B2.off) = false by cases B2.off <;> rfl]
          (conv => whnf)
          refine RngC.mk (by omega) (by omega) ?_
          (conv => whnf)
          refine LoopE.mk ⟨_, [(13, .int .i64 ((i + 1 : Nat) : Int)), (12, _), (10, _), (9, _), (8, _), (1, _)], ?_, ⟨rfl, rfl, rfl, rfl, rfl, rfl, trivial⟩, ⟨i + 1, c, m, B2, R2, C2, rfl, rfl, by omega, hS.sel [2, 0, 3, 1] (by decide), hO2, hA2, hR2.le (by omega), hN2, fc⟩⟩
          omega
        · (conv => whnf)
          refine hS.ld 2 rfl rfl ?_
          (conv => whnf)
          refine brD (fun h8 => ?_) (fun h8 => ?_)
          · (conv => whnf)
            have hO1 := cut_ok hO5 a.cut hok.2.2
            have hA1 := cut_alike hA5 a.cut
            have hR1 := cut_rok hR5 a.cut hok.2.2
            (refine drawS tabOk mixed [] (fun d => d = b ∨ d = n) [0, 1, 2, 4, 5, 6, 3, 7, 8, 9] (by kernel_rfl) ?_; rintro w1 rfl; replace hS := hS.drew)
            (conv => whnf)
            refine hS.ldF 2 rfl rfl nt2 ?_
            (conv => whnf)
            refine hS.ldF 2 rfl rfl nt2 ?_
            (conv => whnf)
            refine (bcut_ok a.cut (hS.blk 0 rfl) hO5.len ((hE.sub rfl).ext hS.ext fun _ h => h.elim) fb).mono ?_
            rintro v w1 ⟨rfl, hx1, hB1⟩
            replace hS := hS.upd 0 rfl hx1 (fun c hc => by subst hc; exact List.mem_singleton.2 rfl) (blk_local _ _ _) hB1 (fun c hc => .inl hc)
            refine KeepC.mk (hx1.mono fun d h => .inl h) ?_
            (conv => whnf)
            refine (rbcut_ok a.cut (hS.blk 1 rfl)).mono ?_
            rintro v w2 ⟨rfl, hx2, hB2⟩
            replace hS := hS.upd 1 rfl hx2 (fun c hc => by subst hc; exact List.mem_singleton.2 rfl) (blk_local _ _ _) hB2 (fun c hc => .inl hc)
            refine KeepC.mk ((hx1.mono fun d h => .inl h).trans (hx2.mono fun d h => .inr h)) ?_
            rw [hA5.off]
            have hc12 : (if a.cut < 0 then 2 else if BytS.off B5 = true then 7 else 0 : Nat) < 12 := by split <;> (try split) <;> omega
            generalize (if a.cut < 0 then 2 else if BytS.off B5 = true then 7 else 0 : Nat) = code at hc12
            (conv => whnf)
            refine (coded2_same code hc12 _ (hE.ext hS.ext fun _ h => h.elim) (hh.ext hS.ext)).mono ?_
            rintro v w3 ⟨rfl, hx3⟩
            replace hS := hS.no hx3
            refine KeepC.mk (((hx1.mono fun d h => .inl h).trans (hx2.mono fun d h => .inr h)).trans hx3.of_no) ?_
            clear hx1 hx2 hx3 hB1 hB2
            (conv => whnf)
            generalize (if a.cut < 0 ∨ BytS.off B5 = true then B5 else ⟨BytS.data B5, BytS.off B5, a.cut⟩) = B3 at hS hO1 hA1
            generalize (if a.cut < 0 ∨ RBy.off R5 = true then R5 else ⟨RBy.data R5, RBy.off R5, a.cut, true⟩) = R3 at hS hA1 hR1
            (conv => whnf)
            refine DrawC.cut (fun σ w => ∃ (B2 : BytS) (R2 : RBy) (C2 : CelS), σ = [(185, .bool false), (13, .int .i64 i), (12, .pointer (some ⟨m, 0, none⟩)), (10, .pointer (some ⟨c, 0, none⟩)), (9, .pointer (some ⟨n, 0, none⟩)), (8, .pointer (some ⟨b, 0, none⟩)), (1, .slice (some ⟨b0, o0, none⟩) n0 c0)] ∧ BOk B2 ∧ Alike R2 B2 ∧ ROk R2 (18 * i + 18) ∧ C2.num < 4294967296 ∧ St W No w [blk n 91 (encRB R2), blk m 96 (encCl n C2), blk b 124 (encBy B2), blk c 126 (encCl b C2)]) ?_ ?_
            · skip
              refine drawT tabOk mixed [20, 29] (fun d => d = b ∨ d = c ∨ d = n ∨ d = m) (.take 0 (.take 1 (.take 2 (.take 3 (.take 4 (.take 6 (.take 7 (.take 8 (.take 9 (.take 10 (.alt 5 (.alt 11 (.alt 12 (.take 13 (.take 14 (.take 15 (.take 17 (.take 18 (.take 19 (.alt 16 (.alt 20 (.take 21 (.take 22 (.take 23 (.take 24 (.take 26 (.take 27 (.take 28 (.alt 25 (.alt 29 (.take 30 (.take 31 .fin)) .fin) (.alt 29 (.alt 25 (.take 30 (.take 31 .fin)) .fin) .fin))))))))) .fin) (.alt 20 (.alt 16 (.take 21 (.take 22 (.take 23 (.take 24 (.take 26 (.take 27 (.take 28 (.alt 25 (.alt 29 (.take 30 (.take 31 .fin)) .fin) (.alt 29 (.alt 25 (.take 30 (.take 31 .fin)) .fin) .fin))))))))) .fin) .fin)))))))) .fin) .fin) .fin))))))))))) (by kernel_rfl) ?_
              rintro w1 rfl
              replace hS := hS.drew
              (conv => whnf)
              refine hS.ldF 2 rfl rfl nt ?_
              (conv => whnf)
              refine hS.ldF 2 rfl rfl nt ?_
              (conv => whnf)
              refine hS.ldF 2 rfl rfl nt ?_
              (conv => whnf)
              refine hS.ldF 2 rfl rfl nt ?_
              (conv => whnf)
              refine (cput_ok a.ep a.li (hS.blk 3 rfl) (hS.blk 0 rfl) hO1 hN ((hE.sub rfl).ext hS.ext fun _ h => h.elim) fb fc).mono ?_
              rintro v w1 ⟨rfl, hx1, hB1, hC1⟩
              have hs0 := hS.sel [0, 3, 2, 1, 4] (by decide)
              replace hS : St W No w1 [blk b 124 (encBy (CelS.put C B3 a.ep a.li).2.1), blk c 126 (encCl b (CelS.put C B3 a.ep a.li).2.2), blk ba 83 (encP a), blk n 91 (encRB R3), blk m 96 (encCl n C)] := Ev.St.upd2 hs0 hx1 (by simp [blk]) (blk_local _ _ _) hB1 rfl (blk_local _ _ _) hC1 rfl
              have hy1 := hx1.mono (T := fun d => d = b ∨ d = c ∨ d = n ∨ d = m) (fun d h => h.elim .inl fun h => .inr (.inl h))
              refine KeepC.mk hy1 ?_
              (conv => whnf)
              refine (rcput_ok a.ep a.li (hS.blk 4 rfl) (hS.blk 3 rfl) hA1 hO1 hR1 (by omega) hN).mono ?_
              rintro v w2 ⟨rfl, hx2, R2, hA2, hR2, hB2, hC2⟩
              have hs0 := hS.sel [3, 4, 0, 1, 2] (by decide)
              replace hS : St W No w2 [blk n 91 (encRB R2), blk m 96 (encCl n (CelS.put C B3 a.ep a.li).2.2), blk b 124 (encBy (CelS.put C B3 a.ep a.li).2.1), blk c 126 (encCl b (CelS.put C B3 a.ep a.li).2.2), blk ba 83 (encP a)] := Ev.St.upd2 hs0 hx2 (by simp [blk]) (blk_local _ _ _) hB2 rfl (blk_local _ _ _) hC2 rfl
              have hy2 := hx2.mono (T := fun d => d = b ∨ d = c ∨ d = n ∨ d = m) (fun d h => h.elim (fun h => .inr (.inr (.inl h))) fun h => .inr (.inr (.inr h)))
              refine KeepC.mk (hy1.trans hy2) ?_
              have hcd := put_code C B3 a.ep a.li
              have hN2 := put_num C B3 a.ep a.li hN
              have hO2 := put_ok C B3 a.ep a.li hO1
              clear hB1 hC1 hB2 hC2 hs0
              generalize CelS.put C B3 a.ep a.li = Q at hS hcd hN2 hO2 hA2 ⊢
              obtain ⟨code, B2, C2⟩ := Q
              dsimp only at hS hcd hN2 hO2 hA2 ⊢
              (conv => whnf)
              refine (coded2_same code hcd _ (hE.ext hS.ext fun _ h => h.elim) (hh.ext hS.ext)).mono ?_
              rintro v w3 ⟨rfl, hx3⟩
              replace hS := hS.no hx3
              refine KeepC.mk ((hy1.trans hy2).trans hx3.of_no) ?_
              have hK := (hy1.trans hy2).trans (hx3.of_no (S := fun d => d = b ∨ d = c ∨ d = n ∨ d = m))
              clear hy1 hy2 hx1 hx2 hx3
              repeat' ((conv => whnf); first | refine And.intro ?_ ?_ | (refine hS.ld 1 rfl rfl ?_; refine KeepC.mk hK ?_) | (refine (cepoch_ok (hS.blk 3 rfl)).mono ?_; rintro v w' ⟨rfl, hx'⟩; replace hS := hS.no hx'; replace hK := hK.trans hx'.of_no; clear hx'; refine KeepC.mk hK ?_) | (refine (clife_ok (hS.blk 3 rfl)).mono ?_; rintro v w' ⟨rfl, hx'⟩; replace hS := hS.no hx'; replace hK := hK.trans hx'.of_no; clear hx'; refine KeepC.mk hK ?_) | refine brND (fun h => absurd rfl h) (fun _ => ?_))
              all_goals (conv => whnf)
              all_goals rw [show ((C2.li : Int) != (C2.li : Int)) = false by simp]
              all_goals exact CutE.mk ⟨[(185, .bool false), (13, _), (12, _), (10, _), (9, _), (8, _), (1, _)], ⟨rfl, rfl, rfl, rfl, rfl, rfl, rfl, trivial⟩, ⟨B2, R2, C2, rfl, hO2, hA2, hR2, hN2, hS.keep 4⟩⟩
            clear hS
            rintro _ w ⟨B2, R2, C2, rfl, hO2, hA2, hR2, hN2, hS⟩
            (conv => whnf)
            (refine drawS tabOk mixed [] (No) [0, 2, 3, 4, 5, 1, 6, 7, 8, 10, 11, 12, 13, 9, 14, 15] (by kernel_rfl) ?_; rintro w1 rfl; replace hS := hS.drew)
            (conv => whnf)
            refine hS.ldF 0 rfl rfl id ?_
            (conv => whnf)
            refine (ball_ok (hS.blk 2 rfl) hO2.len).mono ?_
            rintro v w6 ⟨rfl, hx6⟩
            have hS2 := hS.no hx6
            refine KeepC.mk hx6 ?_
            (conv => whnf)
            refine neS2 ?_
            rw [hA2.data]
            (conv => whnf)
            refine brND (fun h => absurd rfl h) (fun _ => ?_)
            (conv => whnf)
            refine hS.ldF 0 rfl rfl id ?_
            (conv => whnf)
            refine (bpower_ok (hS2.blk 2 rfl) hO2.len).mono ?_
            rintro v w7 ⟨rfl, hx7⟩
            replace hS := hS2.no hx7
            refine KeepC.mk (hx6.trans hx7) ?_
            clear hS2 hx6 hx7
            rw [hA2.off]
            (conv => whnf)
            rw [show ((!B2.off) == B2.off) = false by cases B2.off <;> rfl]
            (conv => whnf)
            refine RngC.mk (by omega) (by omega) ?_
            (conv => whnf)
            refine LoopE.mk ⟨_, [(13, .int .i64 ((i + 1 : Nat) : Int)), (12, _), (10, _), (9, _), (8, _), (1, _)], ?_, ⟨rfl, rfl, rfl, rfl, rfl, rfl, trivial⟩, ⟨i + 1, c, m, B2, R2, C2, rfl, rfl, by omega, hS.sel [2, 0, 3, 1] (by decide), hO2, hA2, hR2.le (by omega), hN2, fc⟩⟩
            omega
          · skip
            (conv => whnf)
            refine DrawC.cut (fun σ w => ∃ (B2 : BytS) (R2 : RBy) (C2 : CelS), σ = [(185, .bool false), (13, .int .i64 i), (12, .pointer (some ⟨m, 0, none⟩)), (10, .pointer (some ⟨c, 0, none⟩)), (9, .pointer (some ⟨n, 0, none⟩)), (8, .pointer (some ⟨b, 0, none⟩)), (1, .slice (some ⟨b0, o0, none⟩) n0 c0)] ∧ BOk B2 ∧ Alike R2 B2 ∧ ROk R2 (18 * i + 18) ∧ C2.num < 4294967296 ∧ St W No w [blk n 91 (encRB R2), blk m 96 (encCl n C2), blk b 124 (encBy B2), blk c 126 (encCl b C2)]) ?_ ?_
            · skip
              refine drawT tabOk mixed [20, 29] (fun d => d = b ∨ d = c ∨ d = n ∨ d = m) (.take 0 (.take 1 (.take 2 (.take 3 (.take 4 (.take 6 (.take 7 (.take 8 (.take 9 (.take 10 (.alt 5 (.alt 11 (.alt 12 (.take 13 (.take 14 (.take 15 (.take 17 (.take 18 (.take 19 (.alt 16 (.alt 20 (.take 21 (.take 22 (.take 23 (.take 24 (.take 26 (.take 27 (.take 28 (.alt 25 (.alt 29 (.take 30 (.take 31 .fin)) .fin) (.alt 29 (.alt 25 (.take 30 (.take 31 .fin)) .fin) .fin))))))))) .fin) (.alt 20 (.alt 16 (.take 21 (.take 22 (.take 23 (.take 24 (.take 26 (.take 27 (.take 28 (.alt 25 (.alt 29 (.take 30 (.take 31 .fin)) .fin) (.alt 29 (.alt 25 (.take 30 (.take 31 .fin)) .fin) .fin))))))))) .fin) .fin)))))))) .fin) .fin) .fin))))))))))) (by kernel_rfl) ?_
              rintro w1 rfl
              replace hS := hS.drew
              (conv => whnf)
              refine hS.ldF 2 rfl rfl nt ?_
              (conv => whnf)
              refine hS.ldF 2 rfl rfl nt ?_
              (conv => whnf)
              refine hS.ldF 2 rfl rfl nt ?_
              (conv => whnf)
              refine hS.ldF 2 rfl rfl nt ?_
              (conv => whnf)
              refine (cput_ok a.ep a.li (hS.blk 3 rfl) (hS.blk 0 rfl) hO5 hN ((hE.sub rfl).ext hS.ext fun _ h => h.elim) fb fc).mono ?_
              rintro v w1 ⟨rfl, hx1, hB1, hC1⟩
              have hs0 := hS.sel [0, 3, 2, 1, 4] (by decide)
              replace hS : St W No w1 [blk b 124 (encBy (CelS.put C B5 a.ep a.li).2.1), blk c 126 (encCl b (CelS.put C B5 a.ep a.li).2.2), blk ba 83 (encP a), blk n 91 (encRB R5), blk m 96 (encCl n C)] := Ev.St.upd2 hs0 hx1 (by simp [blk]) (blk_local _ _ _) hB1 rfl (blk_local _ _ _) hC1 rfl
              have hy1 := hx1.mono (T := fun d => d = b ∨ d = c ∨ d = n ∨ d = m) (fun d h => h.elim .inl fun h => .inr (.inl h))
              refine KeepC.mk hy1 ?_
              (conv => whnf)
              refine (rcput_ok a.ep a.li (hS.blk 4 rfl) (hS.blk 3 rfl) hA5 hO5 hR5 (by omega) hN).mono ?_
              rintro v w2 ⟨rfl, hx2, R2, hA2, hR2, hB2, hC2⟩
              have hs0 := hS.sel [3, 4, 0, 1, 2] (by decide)
              replace hS : St W No w2 [blk n 91 (encRB R2), blk m 96 (encCl n (CelS.put C B5 a.ep a.li).2.2), blk b 124 (encBy (CelS.put C B5 a.ep a.li).2.1), blk c 126 (encCl b (CelS.put C B5 a.ep a.li).2.2), blk ba 83 (encP a)] := Ev.St.upd2 hs0 hx2 (by simp [blk]) (blk_local _ _ _) hB2 rfl (blk_local _ _ _) hC2 rfl
              have hy2 := hx2.mono (T := fun d => d = b ∨ d = c ∨ d = n ∨ d = m) (fun d h => h.elim (fun h => .inr (.inr (.inl h))) fun h => .inr (.inr (.inr h)))
              refine KeepC.mk (hy1.trans hy2) ?_
              have hcd := put_code C B5 a.ep a.li
              have hN2 := put_num C B5 a.ep a.li hN
              have hO2 := put_ok C B5 a.ep a.li hO5
              clear hB1 hC1 hB2 hC2 hs0
              generalize CelS.put C B5 a.ep a.li = Q at hS hcd hN2 hO2 hA2 ⊢
              obtain ⟨code, B2, C2⟩ := Q
              dsimp only at hS hcd hN2 hO2 hA2 ⊢
              (conv => whnf)
              refine (coded2_same code hcd _ (hE.ext hS.ext fun _ h => h.elim) (hh.ext hS.ext)).mono ?_
              rintro v w3 ⟨rfl, hx3⟩
              replace hS := hS.no hx3
              refine KeepC.mk ((hy1.trans hy2).trans hx3.of_no) ?_
              have hK := (hy1.trans hy2).trans (hx3.of_no (S := fun d => d = b ∨ d = c ∨ d = n ∨ d = m))
              clear hy1 hy2 hx1 hx2 hx3
              repeat' ((conv => whnf); first | refine And.intro ?_ ?_ | (refine hS.ld 1 rfl rfl ?_; refine KeepC.mk hK ?_) | (refine (cepoch_ok (hS.blk 3 rfl)).mono ?_; rintro v w' ⟨rfl, hx'⟩; replace hS := hS.no hx'; replace hK := hK.trans hx'.of_no; clear hx'; refine KeepC.mk hK ?_) | (refine (clife_ok (hS.blk 3 rfl)).mono ?_; rintro v w' ⟨rfl, hx'⟩; replace hS := hS.no hx'; replace hK := hK.trans hx'.of_no; clear hx'; refine KeepC.mk hK ?_) | refine brND (fun h => absurd rfl h) (fun _ => ?_))
              all_goals (conv => whnf)
              all_goals rw [show ((C2.li : Int) != (C2.li : Int)) = false by simp]
              all_goals exact CutE.mk ⟨[(185, .bool false), (13, _), (12, _), (10, _), (9, _), (8, _), (1, _)], ⟨rfl, rfl, rfl, rfl, rfl, rfl, rfl, trivial⟩, ⟨B2, R2, C2, rfl, hO2, hA2, hR2, hN2, hS.keep 4⟩⟩
            clear hS
            rintro _ w ⟨B2, R2, C2, rfl, hO2, hA2, hR2, hN2, hS⟩
            (conv => whnf)
            (refine drawS tabOk mixed [] (No) [0, 2, 3, 4, 5, 1, 6, 7, 8, 10, 11, 12, 13, 9, 14, 15] (by kernel_rfl) ?_; rintro w1 rfl; replace hS := hS.drew)
            (conv => whnf)
            refine hS.ldF 0 rfl rfl id ?_
            (conv => whnf)
            refine (ball_ok (hS.blk 2 rfl) hO2.len).mono ?_
            rintro v w6 ⟨rfl, hx6⟩
            have hS2 := hS.no hx6
            refine KeepC.mk hx6 ?_
            (conv => whnf)
            refine neS2 ?_
            rw [hA2.data]
            (conv => whnf)
            refine brND (fun h => absurd rfl h) (fun _ => ?_)
            (conv => whnf)
            refine hS.ldF 0 rfl rfl id ?_
            (conv => whnf)
            refine (bpower_ok (hS2.blk 2 rfl) hO2.len).mono ?_
            rintro v w7 ⟨rfl, hx7⟩
            replace hS := hS2.no hx7
            refine KeepC.mk (hx6.trans hx7) ?_
            clear hS2 hx6 hx7
            rw [hA2.off]
            (conv => whnf)
            rw [show ((!B2.off) == B2.off) = false by cases B2.off <;> rfl]
            (conv => whnf)
            refine RngC.mk (by omega) (by omega) ?_
            (conv => whnf)
            refine LoopE.mk ⟨_, [(13, .int .i64 ((i + 1 : Nat) : Int)), (12, _), (10, _), (9, _), (8, _), (1, _)], ?_, ⟨rfl, rfl, rfl, rfl, rfl, rfl, trivial⟩, ⟨i + 1, c, m, B2, R2, C2, rfl, rfl, by omega, hS.sel [2, 0, 3, 1] (by decide), hO2, hA2, hR2.le (by omega), hN2, fc⟩⟩
            omega
  · repeat' ((conv => whnf); first | refine RetC.mk ?_ | refine NzC.mk (by decide) ?_ | refine RngC.mk (by omega) (by omega) ?_ | refine IdxC.mk (by omega) (by omega) ?_ | refine brD (fun _ => ?_) (fun _ => ?_) | refine brND (fun _ => ?_) (fun _ => ?_) | refine brN (fun _ => ?_) (fun _ => ?_) | refine brI (fun _ => ?_) (fun _ => ?_))
    exact ⟨rfl, hS.ext⟩

theorem cellActs_walk {E : Nat → Addr} (W : World) (args : List Value) (hE : Errs W E W.heap.size allErrs) (hh : Handle W) (ha : ArgsOk Tryd.prog W [9, 76] args) :
    CallC Tryd.prog 8 args.toArray W fun v w' => v = .bool true ∧ Ext No W w' := by
  obtain ⟨v0, args, rfl, h0, ha⟩ := ha.cons
  obtain ⟨v1, args, rfl, h1, ha⟩ := ha.cons
  obtain rfl := ha.nil
  obtain ⟨d, hd⟩ : ∃ d, 10 ≤ d := ⟨10, Nat.le_refl _⟩
  obtain ⟨s, rfl⟩ := arg_str Tryd.underlying9 h0
  obtain ⟨s, rfl⟩ := bs_of s
  obtain ⟨a0, n0, c0, xs, rfl, hx, _⟩ := arg_slice (d := d) (sz := 5) Tryd.underlying76 (by kernel_rfl) (by decide) (dec_put hd) h1
  exact cellActs_ok W hE hh s a0 n0 c0 xs hx
end Go.Proofs.YteakdmngllfodaaDoor
