
/-
  TellerAll returns true whatever its arguments.
-/
import Derived.Test.YteakdmngllfodaaDoorTells
import Derived.Test.YteakdmngllfodaaDoorTellA
import Derived.Test.YteakdmngllfodaaDoorMirrored
namespace Go.Proofs.YteakdmngllfodaaDoor
open Go Ev

theorem tellerAll_ok {E : Nat → Addr} (W : World) (hE : Errs W E W.heap.size [2, 4, 5, 6, 10]) (lost : Int) (a0 : Option Addr) (n0 c0 : Nat) (acts : List ActS) (hx : Slc W 10 encA (fun _ => True) a0 n0 acts) :
    CallC Tryd.prog 5 #[.slice a0 n0 c0, .int .i64 lost] W fun v w' => v = .bool true ∧ Ext No W w' := by
  have hm0 := hx.max
  refine fn_intro tabOk Tryd.func5 (by kernel_rfl) rfl Tryd.ntmps5 (Nat.le_of_ble_eq_true rfl) ?_
  have hS := St.start W No
  (conv => whnf)
  refine (tells_ok _ (hE.sub rfl) (Nat.le_refl _)).mono ?_
  rintro v w' ⟨rfl, hx'⟩
  replace hS := hS.no hx'
  clear hx'
  (conv => whnf)
  refine brD (fun h1 => ?_) (fun h1 => ?_)
  · repeat' ((conv => whnf); first | refine RetC.mk ?_ | refine NzC.mk (by decide) ?_ | refine RngC.mk (by omega) (by omega) ?_ | refine IdxC.mk (by omega) (by omega) ?_ | refine brD (fun _ => ?_) (fun _ => ?_) | refine brND (fun _ => ?_) (fun _ => ?_) | refine brN (fun _ => ?_) (fun _ => ?_) | refine brI (fun _ => ?_) (fun _ => ?_))
    exact ⟨rfl, hS.ext⟩
  (conv => whnf)
  refine brD (fun h2 => ?_) (fun h2 => ?_)
  · repeat' ((conv => whnf); first | refine RetC.mk ?_ | refine NzC.mk (by decide) ?_ | refine RngC.mk (by omega) (by omega) ?_ | refine IdxC.mk (by omega) (by omega) ?_ | refine brD (fun _ => ?_) (fun _ => ?_) | refine brND (fun _ => ?_) (fun _ => ?_) | refine brN (fun _ => ?_) (fun _ => ?_) | refine brI (fun _ => ?_) (fun _ => ?_))
    exact ⟨rfl, hS.ext⟩
  (conv => whnf)
  refine brD (fun h3 => ?_) (fun h3 => ?_)
  · repeat' ((conv => whnf); first | refine RetC.mk ?_ | refine NzC.mk (by decide) ?_ | refine RngC.mk (by omega) (by omega) ?_ | refine IdxC.mk (by omega) (by omega) ?_ | refine brD (fun _ => ?_) (fun _ => ?_) | refine brND (fun _ => ?_) (fun _ => ?_) | refine brN (fun _ => ?_) (fun _ => ?_) | refine brI (fun _ => ?_) (fun _ => ?_))
    exact ⟨rfl, hS.ext⟩
  (conv => whnf)
  refine (tnew_ok 0 _ (.inl rfl)).mono ?_
  rintro v w' ⟨b, rfl, hb, hx', hB⟩
  replace hS := hS.made hx' (blk_local _ _ _) hB (by simp [blk]; exact ⟨hb, hB.lt⟩)
  have fb := hS.fresh 0 rfl
  clear hx' hB hb
  (conv => whnf)
  refine (tlNew_ok b _).mono ?_
  rintro v w' ⟨bx, rfl, hb, hx', hB⟩
  replace hS := hS.made hx' (blk_local _ _ _) hB (by simp [blk]; exact ⟨hb, hB.lt⟩)
  clear hx' hB hb
  (conv => whnf)
  refine (new_ok _).mono ?_
  rintro v w' ⟨bm, rfl, hb, hx', hB⟩
  replace hS := hS.made hx' (blk_local _ _ _) hB (by simp [blk]; exact ⟨hb, hB.lt⟩)
  have fm := hS.fresh 2 rfl
  clear hx' hB hb
  (conv => whnf)
  refine loopR tabOk (fun σ w q => ∃ (i : Nat) (T : MirS), σ = [(10, .int .i64 i), (9, .pointer (some ⟨bm, 0, none⟩)), (8, .pointer (some ⟨bx, 0, none⟩)), (6, .pointer (some ⟨b, 0, none⟩)), (1, .int .i64 lost), (0, .slice a0 n0 c0)] ∧ q = n0 - i ∧ i ≤ n0 ∧ St W No w [blk b 100 (encM T), blk bx 103 (encTel b tel0), blk bm 114 (encM ⟨0, emptyCells⟩)] ∧ ZOk i T ∧ T.life = 2000 + 0 * 24)
    (σ' := [(10, .int .i64 ((0 : Nat) : Int)), (9, .pointer (some ⟨bm, 0, none⟩)), (8, .pointer (some ⟨bx, 0, none⟩)), (6, .pointer (some ⟨b, 0, none⟩)), (1, .int .i64 lost), (0, .slice a0 n0 c0)]) (n := n0) ⟨rfl, rfl, rfl, rfl, rfl, rfl, trivial⟩ ⟨0, tT0, rfl, rfl, Nat.zero_le _, hS, ZOk.empty _, rfl⟩ ?_
  clear hS
  rintro _ w q ⟨i, T, rfl, rfl, hi, hS, hO, hF⟩
  have hv := hO.verOk (by omega)
  have hm := hO.len
  (conv => whnf)
  refine brD (fun h4 => ?_) (fun h4 => ?_)
  · obtain ⟨b0, o0, a, _, _, rfl, hb0, hc⟩ := hx.at (k := i) (by omega)
    (conv => whnf)
    refine IdxC.mk (by omega) (by omega) ?_
    (conv => whnf)
    refine hS.lar (l := encA a) rfl hc id ?_
    (conv => whnf)
    refine hS.new (fun b11 w' hb11 hS => ?_)
    (conv => whnf)
    refine hS.st 3 rfl (Nat.le_of_ble_eq_true rfl) rfl (fun w' hS => ?_)
    replace hS : St W No w' ([blk b 100 (encM T), blk bx 103 (encTel b tel0), blk bm 114 (encM ⟨0, emptyCells⟩)] ++ [blk b11 40 (encA a)]) := hS
    (conv => whnf)
    refine hS.ld 3 rfl rfl ?_
    (conv => whnf)
    refine eqStr ?_
    (conv => whnf)
    refine brD (fun h5 => ?_) (fun h5 => ?_)
    · repeat' ((conv => whnf); first | refine RetC.mk ?_ | refine NzC.mk (by decide) ?_ | refine RngC.mk (by omega) (by omega) ?_ | refine IdxC.mk (by omega) (by omega) ?_ | refine hS.ld 3 rfl rfl ?_ | refine hS.la 3 rfl (l := [.int .i64 a.f.ia, .int .i64 a.f.ip]) rfl rfl ?_ | refine hS.la 3 rfl (l := [.int .i64 a.f.fa, .int .i64 a.f.fp]) rfl rfl ?_ | refine brD (fun _ => ?_) (fun _ => ?_) | refine brND (fun _ => ?_) (fun _ => ?_) | refine brN (fun _ => ?_) (fun _ => ?_) | refine brI (fun _ => ?_) (fun _ => ?_))
      refine (tadd_ok a.f.proto a.f.ia a.f.ip a.f.fa a.f.fp a.f.state a.f.til (hS.blk 0 rfl) hm hv (by omega) ((hE.sub rfl).ext hS.ext fun _ h => h.elim) fb).mono ?_
      rintro v w' ⟨rfl, hx', hB⟩
      replace hS := hS.upd 0 rfl hx' (fun c hc => by subst hc; exact List.mem_singleton.2 rfl) (blk_local _ _ _) hB (fun c hc => .inl hc)
      clear hx' hB
      have hO2 := hO.add a.f.proto a.f.ia a.f.ip a.f.fa a.f.fp a.f.state a.f.til
      have hF2 := T.add_life' a.f.proto a.f.ia a.f.ip a.f.fa a.f.fp a.f.state a.f.til
      generalize T.add a.f.proto a.f.ia a.f.ip a.f.fa a.f.fp a.f.state a.f.til = R at hS hO2 hF2
      obtain ⟨_, T2⟩ := R
      (conv => whnf)
      (refine RngC.mk (by omega) (by omega) ?_; conv => whnf); refine LoopE.mk ⟨_, [(10, .int .i64 ((i + 1 : Nat) : Int)), (9, _), (8, _), (6, _), (1, _), (0, _)], (by omega), ⟨rfl, rfl, rfl, rfl, rfl, rfl, trivial⟩, ⟨i + 1, T2, rfl, rfl, by omega, hS.keep 3, hO2, hF2.trans hF⟩⟩
    (conv => whnf)
    refine eqStr ?_
    (conv => whnf)
    refine brD (fun h6 => ?_) (fun h6 => ?_)
    · repeat' ((conv => whnf); first | refine RetC.mk ?_ | refine NzC.mk (by decide) ?_ | refine RngC.mk (by omega) (by omega) ?_ | refine IdxC.mk (by omega) (by omega) ?_ | refine hS.ld 3 rfl rfl ?_ | refine brD (fun _ => ?_) (fun _ => ?_) | refine brND (fun _ => ?_) (fun _ => ?_) | refine brN (fun _ => ?_) (fun _ => ?_) | refine brI (fun _ => ?_) (fun _ => ?_))
      refine (tset_ok a.slot a.f.state a.f.til (hS.blk 0 rfl) hm hv ((hE.sub rfl).ext hS.ext fun _ h => h.elim)).mono ?_
      rintro v w' ⟨rfl, hx', hB⟩
      replace hS := hS.upd 0 rfl hx' (fun c hc => by subst hc; exact List.mem_singleton.2 rfl) (blk_local _ _ _) hB (fun c hc => .inl hc)
      clear hx' hB
      have hO2 := hO.setS a.slot a.f.state a.f.til
      have hF2 := T.setS_life a.slot a.f.state a.f.til
      generalize T.setS a.slot a.f.state a.f.til = R at hS hO2 hF2
      obtain ⟨_, T2⟩ := R
      (conv => whnf)
      (refine RngC.mk (by omega) (by omega) ?_; conv => whnf); refine LoopE.mk ⟨_, [(10, .int .i64 ((i + 1 : Nat) : Int)), (9, _), (8, _), (6, _), (1, _), (0, _)], (by omega), ⟨rfl, rfl, rfl, rfl, rfl, rfl, trivial⟩, ⟨i + 1, T2, rfl, rfl, by omega, hS.keep 3, hO2, hF2.trans hF⟩⟩
    (conv => whnf)
    refine eqStr ?_
    (conv => whnf)
    refine brD (fun h7 => ?_) (fun h7 => ?_)
    · repeat' ((conv => whnf); first | refine RetC.mk ?_ | refine NzC.mk (by decide) ?_ | refine RngC.mk (by omega) (by omega) ?_ | refine IdxC.mk (by omega) (by omega) ?_ | refine hS.ld 3 rfl rfl ?_ | refine brD (fun _ => ?_) (fun _ => ?_) | refine brND (fun _ => ?_) (fun _ => ?_) | refine brN (fun _ => ?_) (fun _ => ?_) | refine brI (fun _ => ?_) (fun _ => ?_))
      refine (tdrop_ok a.slot (hS.blk 0 rfl) hm hv ((hE.sub rfl).ext hS.ext fun _ h => h.elim)).mono ?_
      rintro v w' ⟨rfl, hx', hB⟩
      replace hS := hS.upd 0 rfl hx' (fun c hc => by subst hc; exact List.mem_singleton.2 rfl) (blk_local _ _ _) hB (fun c hc => .inl hc)
      clear hx' hB
      have hO2 := hO.drop a.slot
      have hF2 := T.drop_life' a.slot
      generalize T.drop a.slot = R at hS hO2 hF2
      obtain ⟨_, T2⟩ := R
      (conv => whnf)
      (refine RngC.mk (by omega) (by omega) ?_; conv => whnf); refine LoopE.mk ⟨_, [(10, .int .i64 ((i + 1 : Nat) : Int)), (9, _), (8, _), (6, _), (1, _), (0, _)], (by omega), ⟨rfl, rfl, rfl, rfl, rfl, rfl, trivial⟩, ⟨i + 1, T2, rfl, rfl, by omega, hS.keep 3, hO2, hF2.trans hF⟩⟩
    have hO2 := hO.succ
    obtain ⟨T2, hT2⟩ : ∃ T2, T2 = T := ⟨_, rfl⟩
    rw [← hT2] at hO2 hS
    have hF2 : T2.life = T.life := congrArg MirS.life hT2
    (conv => whnf)
    (refine RngC.mk (by omega) (by omega) ?_; conv => whnf); refine LoopE.mk ⟨_, [(10, .int .i64 ((i + 1 : Nat) : Int)), (9, _), (8, _), (6, _), (1, _), (0, _)], (by omega), ⟨rfl, rfl, rfl, rfl, rfl, rfl, trivial⟩, ⟨i + 1, T2, rfl, rfl, by omega, hS.keep 3, hO2, hF2.trans hF⟩⟩
  obtain rfl : i = n0 := by omega
  (conv => whnf)
  refine loopR tabOk (fun σ w q => ∃ (j : Nat) (X : TelS), σ = [(12, .int .i64 j), (9, .pointer (some ⟨bm, 0, none⟩)), (8, .pointer (some ⟨bx, 0, none⟩)), (6, .pointer (some ⟨b, 0, none⟩)), (1, .int .i64 lost)] ∧ q = lost.toNat - j ∧ (j : Int) ≤ lost ∧ St W No w [blk b 100 (encM T), blk bx 103 (encTel b X), blk bm 114 (encM ⟨0, emptyCells⟩)] ∧ X.told.length = 32 ∧ X.cursor < 32)
    (σ' := [(12, .int .i64 ((0 : Nat) : Int)), (9, .pointer (some ⟨bm, 0, none⟩)), (8, .pointer (some ⟨bx, 0, none⟩)), (6, .pointer (some ⟨b, 0, none⟩)), (1, .int .i64 lost)]) (n := lost.toNat) ⟨rfl, rfl, rfl, rfl, rfl, trivial⟩ ⟨0, tel0, rfl, rfl, by omega, hS, by simp [tel0], by decide⟩ ?_
  clear hS
  rintro _ w q ⟨j, X, rfl, rfl, hj, hS, htl, hcu⟩
  (conv => whnf)
  refine brD (fun h4 => ?_) (fun h4 => ?_)
  · (conv => whnf)
    refine (tlNext_ok (hS.blk 1 rfl) (hS.blk 0 rfl) hm htl hcu).mono ?_
    rintro v w' ⟨⟨a', c', rfl⟩, hx', hB, _, _⟩
    replace hS := hS.upd 1 rfl hx' (fun c hc => by subst hc; exact List.mem_singleton.2 rfl) (blk_local _ _ _) hB (fun c hc => .inl hc)
    clear hx' hB
    (conv => whnf)
    refine RngC.mk (by omega) (by omega) ?_
    (conv => whnf)
    refine LoopE.mk ⟨_, [(12, .int .i64 ((j + 1 : Nat) : Int)), (9, _), (8, _), (6, _), (1, _)], ?_, ⟨rfl, rfl, rfl, rfl, rfl, trivial⟩, ⟨j + 1, X.next T.cells, rfl, rfl, by omega, hS, told_next _ htl, (picks_law _ hcu).cur⟩⟩
    omega
  (conv => whnf)
  have hlg := lag_le T.cells X.told
  refine loopR tabOk (fun σ w q => ∃ (i : Nat) (X : TelS) (m : MirS) (K : Nat → Prop), σ = [(14, .int .i64 i), (13, .int .i64 8), (9, .pointer (some ⟨bm, 0, none⟩)), (8, .pointer (some ⟨bx, 0, none⟩)), (6, .pointer (some ⟨b, 0, none⟩))] ∧ q = 9 - i ∧ i ≤ 9 ∧ St W No w [blk b 100 (encM T), blk bx 103 (encTel b X), blk bm 114 (encM m)] ∧ X.told.length = 32 ∧ X.cursor < 32 ∧ lag T.cells X.told ≤ 32 - 8 * i ∧ Know T.cells K m.cells ∧ (m.life = 1 ∨ (m.life = 0 ∧ m.cells = emptyCells)) ∧ Cov i X.cursor K)
    (σ' := [(14, .int .i64 ((0 : Nat) : Int)), (13, .int .i64 8), (9, .pointer (some ⟨bm, 0, none⟩)), (8, .pointer (some ⟨bx, 0, none⟩)), (6, .pointer (some ⟨b, 0, none⟩))]) (n := 9) ⟨rfl, rfl, rfl, rfl, rfl, trivial⟩ ⟨0, X, ⟨0, emptyCells⟩, fun _ => False, rfl, rfl, Nat.zero_le _, hS, htl, hcu, by omega, Know.none _, .inr ⟨rfl, rfl⟩, fun h => absurd h (by omega)⟩ ?_
  clear hS htl hcu hlg
  clear X
  rintro _ w q ⟨k, X, m, K, rfl, rfl, hk, hS, htl, hcu, hlg, hK, hml, hcov⟩
  (conv => whnf)
  refine brD (fun h5 => ?_) (fun h5 => ?_)
  · have hP := picks_law T.cells hcu
    have hlt := hP.lt
    have hpl := hP.len
    have hcu2 := hP.cur
    have htl2 := told_next T.cells htl
    have hlg2 := lag_next T.cells hcu htl
    have hcov2 := hcov.step hcu hlg
    have htk := tell_know hK hml hO hlt hpl
    have hml0 := hK.len
    (conv => whnf)
    refine (tlNext_ok (hS.blk 1 rfl) (hS.blk 0 rfl) hm htl hcu).mono ?_
    rintro v w' ⟨⟨a', c', rfl⟩, hx', hB, ho, hf⟩
    replace hS := hS.updMade 1 rfl hx' (fun c hc => by subst hc; exact List.mem_singleton.2 rfl) (blk_local _ _ _) hB (fun c hc => hc) ownL_local ho (fun g hg => hf g (by simpa [ownL, own] using hg))
    clear hx' hB ho hf
    generalize X.next T.cells = X2 at hS hcu2 htl2 hlg2 hcov2
    generalize X.picks T.cells = p at hS hlt hpl hcov2 htk
    rw [hpl] at hS ⊢
    (conv => whnf)
    refine (tell_ok 1 (hS.blk 2 rfl) hml0 ((hE.sub rfl).ext hS.ext fun _ h => h.elim) fm (ownL_slc (G := fun _ => True) codCell (hS.get 3 rfl) fun _ _ => trivial) (fun _ => hS.ownNe 2 3 rfl rfl (by decide))).mono ?_
    rintro v w' ⟨rfl, hx', hB⟩
    replace hS := hS.upd 2 rfl hx' (fun c hc => by subst hc; exact List.mem_singleton.2 rfl) (blk_local _ _ _) hB (fun c hc => .inl hc)
    clear hx' hB
    obtain ⟨t1, t2, t3⟩ := htk
    generalize m.tell 1 (outC T.cells p) = R at hS t1 t2 t3
    obtain ⟨_, m2⟩ := R
    obtain rfl := t1
    (conv => whnf)
    refine RngC.mk (by omega) (by omega) ?_
    (conv => whnf)
    refine LoopE.mk ⟨_, [(14, .int .i64 ((k + 1 : Nat) : Int)), (13, _), (9, _), (8, _), (6, _)], ?_, ⟨rfl, rfl, rfl, rfl, rfl, trivial⟩, ⟨k + 1, X2, m2, _, rfl, rfl, by omega, hS.keep 3, htl2, hcu2, by omega, t3, .inl t2, hcov2⟩⟩
    omega
  · obtain rfl : k = 9 := by omega
    have hMT := hK.full hO hcov.full
    (conv => whnf)
    refine (tlLag_ok (hS.blk 1 rfl) (hS.blk 0 rfl) hm htl).mono ?_
    rintro v w' ⟨rfl, hx'⟩
    replace hS := hS.no hx'
    clear hx'
    rw [show lag T.cells X.told = 0 by omega]
    (conv => whnf)
    refine (cells_ok (hS.blk 2 rfl) hK.len).mono ?_
    rintro v w' ⟨a2, c2, rfl, hx', ho, hf⟩
    replace hS := hS.madeL hx' ho hf
    clear hx' ho hf
    (conv => whnf)
    refine (tcells_ok (hS.blk 0 rfl) hm).mono ?_
    rintro v w' ⟨a3, c3, rfl, hx', ho, hf⟩
    replace hS := hS.madeL hx' ho hf
    clear hx' ho hf
    (conv => whnf)
    refine (same_ok (ownL_slc (G := fun _ => True) codCell (hS.get 3 rfl) fun _ _ => trivial) (ownL_slc (G := fun _ => True) codCell (hS.get 4 rfl) fun _ _ => trivial)).mono ?_
    rintro v w' ⟨rfl, hx'⟩
    replace hS := hS.no hx'
    rw [decide_eq_true hMT]
    repeat' ((conv => whnf); first | refine RetC.mk ?_ | refine NzC.mk (by decide) ?_ | refine RngC.mk (by omega) (by omega) ?_ | refine IdxC.mk (by omega) (by omega) ?_ | refine brD (fun _ => ?_) (fun _ => ?_) | refine brND (fun _ => ?_) (fun _ => ?_) | refine brN (fun _ => ?_) (fun _ => ?_) | refine brI (fun _ => ?_) (fun _ => ?_))
    exact ⟨rfl, hS.ext⟩

theorem tellerAll_walk {E : Nat → Addr} (W : World) (args : List Value) (hE : Errs W E W.heap.size [2, 4, 5, 6, 10]) (ha : ArgsOk Tryd.prog W [22, 3] args) :
    CallC Tryd.prog 5 args.toArray W fun v w' => v = .bool true ∧ Ext No W w' := by
  obtain ⟨v0, args, rfl, h0, ha⟩ := ha.cons
  obtain ⟨v1, args, rfl, h1, ha⟩ := ha.cons
  obtain rfl := ha.nil
  obtain ⟨x1, rfl, _⟩ := arg_int Tryd.underlying3 h1
  obtain ⟨d, hd⟩ : ∃ d, 10 ≤ d := ⟨10, Nat.le_refl _⟩
  obtain ⟨a0, n0, c0, xs, rfl, hx, _⟩ := arg_slice (d := d) (sz := 10) Tryd.underlying22 (by kernel_rfl) (by decide) (dec_act hd) h0
  exact tellerAll_ok W hE x1 a0 n0 c0 xs hx
end Go.Proofs.YteakdmngllfodaaDoor
