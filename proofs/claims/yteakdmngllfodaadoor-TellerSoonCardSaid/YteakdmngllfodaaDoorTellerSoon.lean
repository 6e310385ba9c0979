
/-
  TellerSoon returns true whatever its arguments.
-/
import Derived.Test.YteakdmngllfodaaDoorTells
import Derived.Test.YteakdmngllfodaaDoorTellL
namespace Go.Proofs.YteakdmngllfodaaDoor
open Go Ev

theorem out_slot {n : Nat} {T : MirS} (hO : TOk n T) {p : List Nat} (hp : ∀ x ∈ p, x < 32) {i : Nat} {c : CellS} (h : (outC T.cells p)[i]? = some c) : ∃ k, p[i]? = some k ∧ c.slot = k ∧ T.cells[k]? = some c := by
  unfold outC at h
  rw [List.getElem?_map, Option.map_eq_some_iff] at h
  obtain ⟨k, hk, rfl⟩ := h
  have hlt := hp k (List.mem_of_getElem? hk)
  obtain ⟨d, hd⟩ : ∃ d, T.cells[k]? = some d := ⟨_, List.getElem?_eq_getElem (by rw [hO.len]; exact hlt)⟩
  rw [cellAt_of hd]
  exact ⟨k, hk, hO.slot k d hd, hd⟩
theorem out_apart {n : Nat} {T : MirS} (hO : TOk n T) {p : List Nat} (hp : ∀ x ∈ p, x < 32) (hn : p.Nodup) {i j : Nat} {c d : CellS} (hi : (outC T.cells p)[i]? = some c) (hj : (outC T.cells p)[j]? = some d) (hne : i ≠ j) : ¬ c.slot = d.slot := by
  obtain ⟨k, h1, h2, _⟩ := out_slot hO hp hi
  obtain ⟨m, h3, h4, _⟩ := out_slot hO hp hj
  intro e
  have : k = m := by omega
  subst this
  exact hne ((List.getElem?_inj (List.getElem?_eq_some_iff.1 h1).1 hn).1 (h1.trans h3.symm))
theorem tellerSoon_ok {E : Nat → Addr} (W : World) (hE : Errs W E W.heap.size [2, 4, 5, 6]) (ah : Int) (a0 : Option Addr) (n0 c0 : Nat) (acts : List ActS) (hx : Slc W 10 encA (fun _ => True) a0 n0 acts) :
    CallC Tryd.prog 4 #[.slice a0 n0 c0, .int .i64 ah] W fun v w' => v = .bool true ∧ Ext No W w' := by
  have hm0 := hx.max
  refine fn_intro tabOk Tryd.func4 (by kernel_rfl) rfl Tryd.ntmps4 (Nat.le_of_ble_eq_true rfl) ?_
  have hS := St.start W No
  (conv => whnf)
  refine (tells_ok _ (hE.sub rfl) (Nat.le_refl _)).mono ?_
  rintro v w' ⟨rfl, hx'⟩
  replace hS := hS.no hx'
  clear hx'
  (conv => whnf)
  refine brD (fun h1 => ?_) (fun h1 => ?_)
  · repeat' ((conv => whnf); first | refine RetC.mk ?_ | refine NzC.mk (by decide) ?_ | refine RngC.mk (by omega) (by omega) ?_ | refine IdxC.mk (by omega) (by omega) ?_ | refine brD (fun _ => ?_) (fun _ => ?_) | refine brND (fun _ => ?_) (fun _ => ?_) | refine brN (fun _ => ?_) (fun _ => ?_) | refine brI (fun _ => ?_) (fun _ => ?_))
    exact ⟨rfl, hS.ext⟩
  (conv => whnf)
  refine brD (fun h2 => ?_) (fun h2 => ?_)
  · repeat' ((conv => whnf); first | refine RetC.mk ?_ | refine NzC.mk (by decide) ?_ | refine RngC.mk (by omega) (by omega) ?_ | refine IdxC.mk (by omega) (by omega) ?_ | refine brD (fun _ => ?_) (fun _ => ?_) | refine brND (fun _ => ?_) (fun _ => ?_) | refine brN (fun _ => ?_) (fun _ => ?_) | refine brI (fun _ => ?_) (fun _ => ?_))
    exact ⟨rfl, hS.ext⟩
  (conv => whnf)
  refine brD (fun h3 => ?_) (fun h3 => ?_)
  · repeat' ((conv => whnf); first | refine RetC.mk ?_ | refine NzC.mk (by decide) ?_ | refine RngC.mk (by omega) (by omega) ?_ | refine IdxC.mk (by omega) (by omega) ?_ | refine brD (fun _ => ?_) (fun _ => ?_) | refine brND (fun _ => ?_) (fun _ => ?_) | refine brN (fun _ => ?_) (fun _ => ?_) | refine brI (fun _ => ?_) (fun _ => ?_))
    exact ⟨rfl, hS.ext⟩
  (conv => whnf)
  refine (tnew_ok 0 _ (.inl rfl)).mono ?_
  rintro v w' ⟨b, rfl, hb, hx', hB⟩
  replace hS := hS.made hx' (blk_local _ _ _) hB (by simp [blk]; exact ⟨hb, hB.lt⟩)
  have fb := hS.fresh 0 rfl
  clear hx' hB hb
  (conv => whnf)
  refine (tlNew_ok b _).mono ?_
  rintro v w' ⟨bx, rfl, hb, hx', hB⟩
  replace hS := hS.made hx' (blk_local _ _ _) hB (by simp [blk]; exact ⟨hb, hB.lt⟩)
  clear hx' hB hb
  (conv => whnf)
  refine loopR tabOk (fun σ w q => ∃ (i : Nat) (X : TelS), σ = [(9, .int .i64 i), (8, .pointer (some ⟨bx, 0, none⟩)), (6, .pointer (some ⟨b, 0, none⟩)), (1, .int .i64 ah), (0, .slice a0 n0 c0)] ∧ q = ah.toNat - i ∧ (i : Int) ≤ ah ∧ St W No w [blk b 100 (encM tT0), blk bx 103 (encTel b X)] ∧ X.told.length = 32 ∧ X.cursor < 32)
    (σ' := [(9, .int .i64 ((0 : Nat) : Int)), (8, .pointer (some ⟨bx, 0, none⟩)), (6, .pointer (some ⟨b, 0, none⟩)), (1, .int .i64 ah), (0, .slice a0 n0 c0)]) (n := ah.toNat) ⟨rfl, rfl, rfl, rfl, rfl, trivial⟩ ⟨0, tel0, rfl, rfl, by omega, hS, by simp [tel0], by decide⟩ ?_
  clear hS
  rintro _ w q ⟨i, X, rfl, rfl, hi, hS, htl, hcu⟩
  have l0 : tT0.cells.length = 32 := emptyCells_len
  (conv => whnf)
  refine brD (fun h4 => ?_) (fun h4 => ?_)
  · (conv => whnf)
    refine (tlNext_ok (hS.blk 1 rfl) (hS.blk 0 rfl) l0 htl hcu).mono ?_
    rintro v w' ⟨⟨a', c', rfl⟩, hx', hB, _, _⟩
    replace hS := hS.upd 1 rfl hx' (fun c hc => by subst hc; exact List.mem_singleton.2 rfl) (blk_local _ _ _) hB (fun c hc => .inl hc)
    clear hx' hB
    (conv => whnf)
    refine RngC.mk (by omega) (by omega) ?_
    (conv => whnf)
    refine LoopE.mk ⟨_, [(9, .int .i64 ((i + 1 : Nat) : Int)), (8, _), (6, _), (1, _), (0, _)], ?_, ⟨rfl, rfl, rfl, rfl, rfl, trivial⟩, ⟨i + 1, X.next tT0.cells, rfl, rfl, by omega, hS, told_next _ htl, (picks_law _ hcu).cur⟩⟩
    omega
  (conv => whnf)
  refine loopR tabOk (fun σ w q => ∃ (i : Nat) (T : MirS), σ = [(10, .int .i64 i), (8, .pointer (some ⟨bx, 0, none⟩)), (6, .pointer (some ⟨b, 0, none⟩)), (0, .slice a0 n0 c0)] ∧ q = n0 - i ∧ i ≤ n0 ∧ St W No w [blk b 100 (encM T), blk bx 103 (encTel b X)] ∧ TOk i T ∧ T.life = 2000 + 0 * 24)
    (σ' := [(10, .int .i64 ((0 : Nat) : Int)), (8, .pointer (some ⟨bx, 0, none⟩)), (6, .pointer (some ⟨b, 0, none⟩)), (0, .slice a0 n0 c0)]) (n := n0) ⟨rfl, rfl, rfl, rfl, trivial⟩ ⟨0, tT0, rfl, rfl, Nat.zero_le _, hS, TOk.empty _, rfl⟩ ?_
  clear hS
  rintro _ w q ⟨i, T, rfl, rfl, hi, hS, hO, hF⟩
  have hv := hO.verOk (by omega)
  have hm := hO.len
  (conv => whnf)
  refine brD (fun h4 => ?_) (fun h4 => ?_)
  · obtain ⟨b0, o0, a, _, _, rfl, hb0, hc⟩ := hx.at (k := i) (by omega)
    (conv => whnf)
    refine IdxC.mk (by omega) (by omega) ?_
    (conv => whnf)
    refine hS.lar (l := encA a) rfl hc id ?_
    (conv => whnf)
    refine hS.new (fun b11 w' hb11 hS => ?_)
    (conv => whnf)
    refine hS.st 2 rfl (Nat.le_of_ble_eq_true rfl) rfl (fun w' hS => ?_)
    replace hS : St W No w' ([blk b 100 (encM T), blk bx 103 (encTel b X)] ++ [blk b11 40 (encA a)]) := hS
    (conv => whnf)
    refine hS.ld 2 rfl rfl ?_
    (conv => whnf)
    refine eqStr ?_
    (conv => whnf)
    refine brD (fun h5 => ?_) (fun h5 => ?_)
    · repeat' ((conv => whnf); first | refine RetC.mk ?_ | refine NzC.mk (by decide) ?_ | refine RngC.mk (by omega) (by omega) ?_ | refine IdxC.mk (by omega) (by omega) ?_ | refine hS.ld 2 rfl rfl ?_ | refine hS.la 2 rfl (l := [.int .i64 a.f.ia, .int .i64 a.f.ip]) rfl rfl ?_ | refine hS.la 2 rfl (l := [.int .i64 a.f.fa, .int .i64 a.f.fp]) rfl rfl ?_ | refine brD (fun _ => ?_) (fun _ => ?_) | refine brND (fun _ => ?_) (fun _ => ?_) | refine brN (fun _ => ?_) (fun _ => ?_) | refine brI (fun _ => ?_) (fun _ => ?_))
      refine (tadd_ok a.f.proto a.f.ia a.f.ip a.f.fa a.f.fp a.f.state a.f.til (hS.blk 0 rfl) hm hv (by omega) ((hE.sub rfl).ext hS.ext fun _ h => h.elim) fb).mono ?_
      rintro v w' ⟨rfl, hx', hB⟩
      replace hS := hS.upd 0 rfl hx' (fun c hc => by subst hc; exact List.mem_singleton.2 rfl) (blk_local _ _ _) hB (fun c hc => .inl hc)
      clear hx' hB
      have hO2 := hO.add a.f.proto a.f.ia a.f.ip a.f.fa a.f.fp a.f.state a.f.til
      have hF2 := T.add_life' a.f.proto a.f.ia a.f.ip a.f.fa a.f.fp a.f.state a.f.til
      generalize T.add a.f.proto a.f.ia a.f.ip a.f.fa a.f.fp a.f.state a.f.til = R at hS hO2 hF2
      obtain ⟨_, T2⟩ := R
      (conv => whnf)
      (refine RngC.mk (by omega) (by omega) ?_; conv => whnf); refine LoopE.mk ⟨_, [(10, .int .i64 ((i + 1 : Nat) : Int)), (8, _), (6, _), (0, _)], (by omega), ⟨rfl, rfl, rfl, rfl, trivial⟩, ⟨i + 1, T2, rfl, rfl, by omega, hS.keep 2, hO2, hF2.trans hF⟩⟩
    (conv => whnf)
    refine eqStr ?_
    (conv => whnf)
    refine brD (fun h6 => ?_) (fun h6 => ?_)
    · repeat' ((conv => whnf); first | refine RetC.mk ?_ | refine NzC.mk (by decide) ?_ | refine RngC.mk (by omega) (by omega) ?_ | refine IdxC.mk (by omega) (by omega) ?_ | refine hS.ld 2 rfl rfl ?_ | refine brD (fun _ => ?_) (fun _ => ?_) | refine brND (fun _ => ?_) (fun _ => ?_) | refine brN (fun _ => ?_) (fun _ => ?_) | refine brI (fun _ => ?_) (fun _ => ?_))
      refine (tset_ok a.slot a.f.state a.f.til (hS.blk 0 rfl) hm hv ((hE.sub rfl).ext hS.ext fun _ h => h.elim)).mono ?_
      rintro v w' ⟨rfl, hx', hB⟩
      replace hS := hS.upd 0 rfl hx' (fun c hc => by subst hc; exact List.mem_singleton.2 rfl) (blk_local _ _ _) hB (fun c hc => .inl hc)
      clear hx' hB
      have hO2 := hO.setS a.slot a.f.state a.f.til
      have hF2 := T.setS_life a.slot a.f.state a.f.til
      generalize T.setS a.slot a.f.state a.f.til = R at hS hO2 hF2
      obtain ⟨_, T2⟩ := R
      (conv => whnf)
      (refine RngC.mk (by omega) (by omega) ?_; conv => whnf); refine LoopE.mk ⟨_, [(10, .int .i64 ((i + 1 : Nat) : Int)), (8, _), (6, _), (0, _)], (by omega), ⟨rfl, rfl, rfl, rfl, trivial⟩, ⟨i + 1, T2, rfl, rfl, by omega, hS.keep 2, hO2, hF2.trans hF⟩⟩
    (conv => whnf)
    refine eqStr ?_
    (conv => whnf)
    refine brD (fun h7 => ?_) (fun h7 => ?_)
    · repeat' ((conv => whnf); first | refine RetC.mk ?_ | refine NzC.mk (by decide) ?_ | refine RngC.mk (by omega) (by omega) ?_ | refine IdxC.mk (by omega) (by omega) ?_ | refine hS.ld 2 rfl rfl ?_ | refine brD (fun _ => ?_) (fun _ => ?_) | refine brND (fun _ => ?_) (fun _ => ?_) | refine brN (fun _ => ?_) (fun _ => ?_) | refine brI (fun _ => ?_) (fun _ => ?_))
      refine (tdrop_ok a.slot (hS.blk 0 rfl) hm hv ((hE.sub rfl).ext hS.ext fun _ h => h.elim)).mono ?_
      rintro v w' ⟨rfl, hx', hB⟩
      replace hS := hS.upd 0 rfl hx' (fun c hc => by subst hc; exact List.mem_singleton.2 rfl) (blk_local _ _ _) hB (fun c hc => .inl hc)
      clear hx' hB
      have hO2 := hO.drop a.slot
      have hF2 := T.drop_life' a.slot
      generalize T.drop a.slot = R at hS hO2 hF2
      obtain ⟨_, T2⟩ := R
      (conv => whnf)
      (refine RngC.mk (by omega) (by omega) ?_; conv => whnf); refine LoopE.mk ⟨_, [(10, .int .i64 ((i + 1 : Nat) : Int)), (8, _), (6, _), (0, _)], (by omega), ⟨rfl, rfl, rfl, rfl, trivial⟩, ⟨i + 1, T2, rfl, rfl, by omega, hS.keep 2, hO2, hF2.trans hF⟩⟩
    have hO2 := hO.succ
    obtain ⟨T2, hT2⟩ : ∃ T2, T2 = T := ⟨_, rfl⟩
    rw [← hT2] at hO2 hS
    have hF2 : T2.life = T.life := congrArg MirS.life hT2
    (conv => whnf)
    (refine RngC.mk (by omega) (by omega) ?_; conv => whnf); refine LoopE.mk ⟨_, [(10, .int .i64 ((i + 1 : Nat) : Int)), (8, _), (6, _), (0, _)], (by omega), ⟨rfl, rfl, rfl, rfl, trivial⟩, ⟨i + 1, T2, rfl, rfl, by omega, hS.keep 2, hO2, hF2.trans hF⟩⟩
  obtain rfl : i = n0 := by omega
  (conv => whnf)
  refine (tlLag_ok (hS.blk 1 rfl) (hS.blk 0 rfl) hm htl).mono ?_
  rintro v w' ⟨rfl, hx'⟩
  replace hS := hS.no hx'
  clear hx'
  have hle := lag_le T.cells X.told
  (conv => whnf)
  refine loopR tabOk (fun σ w q => ∃ (L : Int) (X : TelS), σ = [(12, .int .i64 L), (8, .pointer (some ⟨bx, 0, none⟩)), (6, .pointer (some ⟨b, 0, none⟩))] ∧ q = L.toNat ∧ -8 ≤ L ∧ L ≤ 32 ∧ lag T.cells X.told = L.toNat ∧ St W No w [blk b 100 (encM T), blk bx 103 (encTel b X)] ∧ X.told.length = 32 ∧ X.cursor < 32)
    (σ' := [(12, .int .i64 (lag T.cells X.told : Nat)), (8, .pointer (some ⟨bx, 0, none⟩)), (6, .pointer (some ⟨b, 0, none⟩))]) (n := lag T.cells X.told) ⟨rfl, rfl, rfl, trivial⟩ ⟨(lag T.cells X.told : Nat), X, rfl, rfl, by omega, by omega, rfl, hS, htl, hcu⟩ ?_
  clear hS hle htl hcu
  clear X
  rintro _ w q ⟨L, X, rfl, rfl, hL1, hL2, hlg, hS, htl, hcu⟩
  (conv => whnf)
  refine brD (fun h4 => ?_) (fun h4 => ?_)
  · have hP := picks_law T.cells hcu
    have hlt := hP.lt
    have hnd := hP.nd
    have hpl := hP.len
    have hcu2 := hP.cur
    have htl2 := told_next T.cells htl
    have hlg2 := lag_next T.cells hcu htl
    (conv => whnf)
    refine (tlNext_ok (hS.blk 1 rfl) (hS.blk 0 rfl) hm htl hcu).mono ?_
    rintro v w' ⟨⟨a', c', rfl⟩, hx', hB, ho, hf⟩
    replace hS := hS.updMade 1 rfl hx' (fun c hc => by subst hc; exact List.mem_singleton.2 rfl) (blk_local _ _ _) hB (fun c hc => hc) ownL_local ho (fun g hg => hf g (by simpa [ownL, own] using hg))
    clear hx' hB ho hf
    generalize X.next T.cells = X2 at hS hcu2 htl2 hlg2
    generalize X.picks T.cells = p at hS hlt hnd hpl
    rw [hpl] at hS ⊢
    (conv => whnf)
    refine loopR tabOk (fun σ w q => ∃ i : Nat, σ = [(14, .int .i64 i), (13, .slice a' 8 c'), (12, .int .i64 L), (8, .pointer (some ⟨bx, 0, none⟩)), (6, .pointer (some ⟨b, 0, none⟩))] ∧ q = 8 - i ∧ i ≤ 8 ∧ St W No w [blk b 100 (encM T), blk bx 103 (encTel b X2), ownL 55 10 encCell (.slice a' 8 c') (outC T.cells p)])
      (σ' := [(14, .int .i64 ((0 : Nat) : Int)), (13, .slice a' 8 c'), (12, .int .i64 L), (8, .pointer (some ⟨bx, 0, none⟩)), (6, .pointer (some ⟨b, 0, none⟩))]) (n := 8) ⟨rfl, rfl, rfl, rfl, rfl, trivial⟩ ⟨0, rfl, rfl, Nat.zero_le _, hS⟩ ?_
    clear hS
    rintro _ w q ⟨i, rfl, rfl, hi, hS⟩
    (conv => whnf)
    refine brD (fun h5 => ?_) (fun h5 => ?_)
    · (conv => whnf)
      refine loopR tabOk (fun σ w q => ∃ j : Nat, σ = [(15, .int .i64 j), (14, .int .i64 i), (13, .slice a' 8 c'), (12, .int .i64 L), (8, .pointer (some ⟨bx, 0, none⟩)), (6, .pointer (some ⟨b, 0, none⟩))] ∧ q = i - j ∧ j ≤ i ∧ St W No w [blk b 100 (encM T), blk bx 103 (encTel b X2), ownL 55 10 encCell (.slice a' 8 c') (outC T.cells p)])
        (σ' := [(15, .int .i64 ((0 : Nat) : Int)), (14, .int .i64 i), (13, .slice a' 8 c'), (12, .int .i64 L), (8, .pointer (some ⟨bx, 0, none⟩)), (6, .pointer (some ⟨b, 0, none⟩))]) (n := i) ⟨rfl, rfl, rfl, rfl, rfl, rfl, trivial⟩ ⟨0, rfl, rfl, Nat.zero_le _, hS⟩ ?_
      clear hS
      rintro _ w q ⟨j, rfl, rfl, hj, hS⟩
      (conv => whnf)
      refine brD (fun h6 => ?_) (fun h6 => ?_)
      · obtain ⟨b1, o1, x, hx1, _, rfl, _, hc1⟩ := (ownL_slc (G := fun _ => True) codCell (hS.get 2 rfl) fun _ _ => trivial).at (k := i) (by omega)
        obtain ⟨b2, o2, y, hy1, _, e2, _, hc2⟩ := (ownL_slc (G := fun _ => True) codCell (hS.get 2 rfl) fun _ _ => trivial).at (k := j) (by omega)
        cases e2
        have hne : ¬ x.slot = y.slot := out_apart hO hlt hnd hx1 hy1 (by omega)
        repeat' ((conv => whnf); first | refine RetC.mk ?_ | refine NzC.mk (by decide) ?_ | refine RngC.mk (by omega) (by omega) ?_ | refine IdxC.mk (by omega) (by omega) ?_ | (refine drawS tabOk mixed [] No [0, 1, 2, 3, 4, 5, 6, 7, 8, 9, 10] (by kernel_rfl) ?_; rintro w1 rfl; replace hS := hS.drew) | refine IdxC.mk (by omega) (by omega) ?_ | refine ldFc (hc1.one 0 rfl) id ?_ | refine ldFc (hc2.one 0 rfl) id ?_ | refine brD (fun _ => ?_) (fun _ => ?_) | refine brND (fun _ => ?_) (fun _ => ?_) | refine brN (fun _ => ?_) (fun _ => ?_) | refine brI (fun _ => ?_) (fun _ => ?_))
        · rename_i h
          exact absurd h hne
        · refine LoopE.mk ⟨_, [(15, .int .i64 ((j + 1 : Nat) : Int)), (14, _), (13, _), (12, _), (8, _), (6, _)], ?_, ⟨rfl, rfl, rfl, rfl, rfl, rfl, trivial⟩, ⟨j + 1, rfl, rfl, by omega, hS⟩⟩
          omega
      · (conv => whnf)
        refine RngC.mk (by omega) (by omega) ?_
        (conv => whnf)
        refine LoopE.mk ⟨_, [(14, .int .i64 ((i + 1 : Nat) : Int)), (13, _), (12, _), (8, _), (6, _)], ?_, ⟨rfl, rfl, rfl, rfl, rfl, trivial⟩, ⟨i + 1, rfl, rfl, by omega, hS⟩⟩
        omega
    · (conv => whnf)
      refine brD (fun h6 => ?_) (fun h6 => ?_)
      · (conv => whnf)
        refine (tlLag_ok (hS.blk 1 rfl) (hS.blk 0 rfl) hm htl2).mono ?_
        rintro v w' ⟨rfl, hx'⟩
        replace hS := hS.no hx'
        (conv => whnf)
        refine RngC.mk (by omega) (by omega) ?_
        (conv => whnf)
        refine brND (fun h => absurd (by omega) h) (fun _ => ?_)
        (conv => whnf)
        refine RngC.mk (by omega) (by omega) ?_
        (conv => whnf)
        refine LoopE.mk ⟨_, [(12, .int .i64 (L - 8)), (8, _), (6, _)], ?_, ⟨rfl, rfl, rfl, trivial⟩, ⟨L - 8, X2, rfl, rfl, by omega, by omega, by omega, hS.keep 2, htl2, hcu2⟩⟩
        omega
      · (conv => whnf)
        refine RngC.mk (by omega) (by omega) ?_
        (conv => whnf)
        refine LoopE.mk ⟨_, [(12, .int .i64 (L - 8)), (8, _), (6, _)], ?_, ⟨rfl, rfl, rfl, trivial⟩, ⟨L - 8, X2, rfl, rfl, by omega, by omega, by omega, hS.keep 2, htl2, hcu2⟩⟩
        omega
  · (conv => whnf)
    refine (tlLag_ok (hS.blk 1 rfl) (hS.blk 0 rfl) hm htl).mono ?_
    rintro v w' ⟨rfl, hx'⟩
    replace hS := hS.no hx'
    have h0 : lag T.cells X.told = 0 := by omega
    rw [h0]
    repeat' ((conv => whnf); first | refine RetC.mk ?_ | refine NzC.mk (by decide) ?_ | refine RngC.mk (by omega) (by omega) ?_ | refine IdxC.mk (by omega) (by omega) ?_ | refine brD (fun _ => ?_) (fun _ => ?_) | refine brND (fun _ => ?_) (fun _ => ?_) | refine brN (fun _ => ?_) (fun _ => ?_) | refine brI (fun _ => ?_) (fun _ => ?_))
    exact ⟨rfl, hS.ext⟩

theorem tellerSoon_walk {E : Nat → Addr} (W : World) (args : List Value) (hE : Errs W E W.heap.size [2, 4, 5, 6]) (ha : ArgsOk Tryd.prog W [22, 3] args) :
    CallC Tryd.prog 4 args.toArray W fun v w' => v = .bool true ∧ Ext No W w' := by
  obtain ⟨v0, args, rfl, h0, ha⟩ := ha.cons
  obtain ⟨v1, args, rfl, h1, ha⟩ := ha.cons
  obtain rfl := ha.nil
  obtain ⟨x1, rfl, _⟩ := arg_int Tryd.underlying3 h1
  obtain ⟨d, hd⟩ : ∃ d, 10 ≤ d := ⟨10, Nat.le_refl _⟩
  obtain ⟨a0, n0, c0, xs, rfl, hx, _⟩ := arg_slice (d := d) (sz := 10) Tryd.underlying22 (by kernel_rfl) (by decide) (dec_act hd) h0
  exact tellerSoon_ok W hE x1 a0 n0 c0 xs hx
end Go.Proofs.YteakdmngllfodaaDoor
