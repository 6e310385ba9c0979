
/-
  TellerNext returns true whatever its arguments.
-/
import Derived.Test.YteakdmngllfodaaDoorTells
import Derived.Test.YteakdmngllfodaaDoorRefTellN
namespace Go.Proofs.YteakdmngllfodaaDoor
open Go Ev

theorem tellerNext_ok {E : Nat → Addr} (W : World) (hE : Errs W E W.heap.size [2, 4, 5, 6]) (nd : Int) (a0 : Option Addr) (n0 c0 : Nat) (acts : List ActS) (hx : Slc W 10 encA (fun _ => True) a0 n0 acts) :
    CallC Tryd.prog 3 #[.int .i64 nd, .slice a0 n0 c0] W fun v w' => v = .bool true ∧ Ext No W w' := by
  have hm0 := hx.max
  refine fn_intro tabOk Tryd.func3 (by kernel_rfl) rfl Tryd.ntmps3 (Nat.le_of_ble_eq_true rfl) ?_
  have hS := St.start W No
  (conv => whnf)
  refine (tells_ok _ (hE.sub rfl) (Nat.le_refl _)).mono ?_
  rintro v w' ⟨rfl, hx'⟩
  replace hS := hS.no hx'
  clear hx'
  (conv => whnf)
  refine brD (fun h1 => ?_) (fun h1 => ?_)
  · repeat' ((conv => whnf); first | refine RetC.mk ?_ | refine NzC.mk (by decide) ?_ | refine RngC.mk (by omega) (by omega) ?_ | refine IdxC.mk (by omega) (by omega) ?_ | refine brD (fun _ => ?_) (fun _ => ?_) | refine brND (fun _ => ?_) (fun _ => ?_) | refine brN (fun _ => ?_) (fun _ => ?_) | refine brI (fun _ => ?_) (fun _ => ?_))
    exact ⟨rfl, hS.ext⟩
  (conv => whnf)
  refine brD (fun h2 => ?_) (fun h2 => ?_)
  · repeat' ((conv => whnf); first | refine RetC.mk ?_ | refine NzC.mk (by decide) ?_ | refine RngC.mk (by omega) (by omega) ?_ | refine IdxC.mk (by omega) (by omega) ?_ | refine brD (fun _ => ?_) (fun _ => ?_) | refine brND (fun _ => ?_) (fun _ => ?_) | refine brN (fun _ => ?_) (fun _ => ?_) | refine brI (fun _ => ?_) (fun _ => ?_))
    exact ⟨rfl, hS.ext⟩
  (conv => whnf)
  refine brD (fun h3 => ?_) (fun h3 => ?_)
  · repeat' ((conv => whnf); first | refine RetC.mk ?_ | refine NzC.mk (by decide) ?_ | refine RngC.mk (by omega) (by omega) ?_ | refine IdxC.mk (by omega) (by omega) ?_ | refine brD (fun _ => ?_) (fun _ => ?_) | refine brND (fun _ => ?_) (fun _ => ?_) | refine brN (fun _ => ?_) (fun _ => ?_) | refine brI (fun _ => ?_) (fun _ => ?_))
    exact ⟨rfl, hS.ext⟩
  have hnd : nd = 0 ∨ nd = 1 := by omega
  (conv => whnf)
  refine (tnew_ok nd _ hnd).mono ?_
  rintro v w' ⟨b, rfl, hb, hx', hB⟩
  replace hS := hS.made hx' (blk_local _ _ _) hB (by simp [blk]; exact ⟨hb, hB.lt⟩)
  have fb := hS.fresh 0 rfl
  clear hx' hB hb
  (conv => whnf)
  refine (tlNew_ok b _).mono ?_
  rintro v w' ⟨bx, rfl, hb, hx', hB⟩
  replace hS := hS.made hx' (blk_local _ _ _) hB (by simp [blk]; exact ⟨hb, hB.lt⟩)
  clear hx' hB hb
  (conv => whnf)
  refine (newTable_ok nd hnd _).mono ?_
  rintro v w' ⟨bt, g, c, rfl, hx', hT, hf⟩
  replace hS := hS.made hx' refT_local hT hf
  clear hx' hT hf
  (conv => whnf)
  refine (rlNew_ok (bt := bt) _).mono ?_
  rintro v w' ⟨bl, gl, cl, rfl, hx', hL, hf⟩
  replace hS := hS.made hx' refL_local hL hf
  clear hx' hL hf
  (conv => whnf)
  refine loopR tabOk (fun σ w q => ∃ (i : Nat) (T : MirS) (X : TelS), σ = [(11, .int .i64 i), (10, .pointer (some ⟨bl, 0, none⟩)), (9, .pointer (some ⟨bt, 0, none⟩)), (8, .pointer (some ⟨bx, 0, none⟩)), (6, .pointer (some ⟨b, 0, none⟩)), (1, .slice a0 n0 c0)] ∧ q = n0 - i ∧ i ≤ n0 ∧ St W No w [blk b 100 (encM T), blk bx 103 (encTel b X), refT bt g c T, refL bt bl gl cl X] ∧ TOk i T ∧ T.life = 2000 + nd * 24 ∧ X.told.length = 32 ∧ X.cursor < 32)
    (σ' := [(11, .int .i64 ((0 : Nat) : Int)), (10, .pointer (some ⟨bl, 0, none⟩)), (9, .pointer (some ⟨bt, 0, none⟩)), (8, .pointer (some ⟨bx, 0, none⟩)), (6, .pointer (some ⟨b, 0, none⟩)), (1, .slice a0 n0 c0)]) (n := n0) ⟨rfl, rfl, rfl, rfl, rfl, rfl, trivial⟩ ⟨0, ⟨2000 + nd * 24, emptyCells⟩, tel0, rfl, rfl, Nat.zero_le _, hS, TOk.empty _, rfl, by simp [tel0], by decide⟩ ?_
  clear hS
  rintro _ w q ⟨i, T, X, rfl, rfl, hi, hS, hO, hF, htl2, hcu2⟩
  have hv := hO.verOk (by omega)
  have hm := hO.len
  (conv => whnf)
  refine brD (fun h4 => ?_) (fun h4 => ?_)
  · obtain ⟨b0, o0, a, _, _, rfl, hb0, hc⟩ := hx.at (k := i) (by omega)
    (conv => whnf)
    refine IdxC.mk (by omega) (by omega) ?_
    (conv => whnf)
    refine hS.lar (l := encA a) rfl hc id ?_
    (conv => whnf)
    refine hS.new (fun b12 w' hb12 hS => ?_)
    (conv => whnf)
    refine hS.st 4 rfl (Nat.le_of_ble_eq_true rfl) rfl (fun w' hS => ?_)
    replace hS : St W No w' [blk b 100 (encM T), blk bx 103 (encTel b X), refT bt g c T, refL bt bl gl cl X, blk b12 40 (encA a)] := hS
    (conv => whnf)
    refine hS.ld 4 rfl rfl ?_
    (conv => whnf)
    refine eqStr ?_
    (conv => whnf)
    refine brD (fun h5 => ?_) (fun h5 => ?_)
    · skip
      repeat' ((conv => whnf); first | refine RetC.mk ?_ | refine NzC.mk (by decide) ?_ | refine RngC.mk (by omega) (by omega) ?_ | refine IdxC.mk (by omega) (by omega) ?_ | refine hS.ld 4 rfl rfl ?_ | refine hS.la 4 rfl (l := [.int .i64 a.f.ia, .int .i64 a.f.ip]) rfl rfl ?_ | refine hS.la 4 rfl (l := [.int .i64 a.f.fa, .int .i64 a.f.fp]) rfl rfl ?_ | refine brD (fun _ => ?_) (fun _ => ?_) | refine brND (fun _ => ?_) (fun _ => ?_) | refine brN (fun _ => ?_) (fun _ => ?_) | refine brI (fun _ => ?_) (fun _ => ?_))
      refine (tadd_ok a.f.proto a.f.ia a.f.ip a.f.fa a.f.fp a.f.state a.f.til (hS.blk 0 rfl) hm hv (by omega) ((hE.sub rfl).ext hS.ext fun _ h => h.elim) fb).mono ?_
      rintro v w' ⟨rfl, hx', hB⟩
      replace hS := hS.upd 0 rfl hx' (fun c hc => by subst hc; exact List.mem_singleton.2 rfl) (blk_local _ _ _) hB (fun c hc => .inl hc)
      clear hx' hB
      repeat' ((conv => whnf); first | refine RetC.mk ?_ | refine NzC.mk (by decide) ?_ | refine RngC.mk (by omega) (by omega) ?_ | refine IdxC.mk (by omega) (by omega) ?_ | refine hS.ld 4 rfl rfl ?_ | refine hS.la 4 rfl (l := [.int .i64 a.f.ia, .int .i64 a.f.ip]) rfl rfl ?_ | refine hS.la 4 rfl (l := [.int .i64 a.f.fa, .int .i64 a.f.fp]) rfl rfl ?_ | refine brD (fun _ => ?_) (fun _ => ?_) | refine brND (fun _ => ?_) (fun _ => ?_) | refine brN (fun _ => ?_) (fun _ => ?_) | refine brI (fun _ => ?_) (fun _ => ?_))
      refine (radd_ok a.f.proto a.f.ia a.f.ip a.f.fa a.f.fp a.f.state a.f.til (hS.get 2 rfl) hO (by omega) (by omega)).mono ?_
      rintro v w' ⟨rfl, hx', hT'⟩
      replace hS := hS.upd 2 rfl hx' (fun d hd => by subst hd; simp [refT]) refT_local hT' (fun d hd => .inl hd)
      clear hx' hT'
      have hO2 := hO.add a.f.proto a.f.ia a.f.ip a.f.fa a.f.fp a.f.state a.f.til
      have hF2 := (T.add_life' a.f.proto a.f.ia a.f.ip a.f.fa a.f.fp a.f.state a.f.til).trans hF
      generalize T.add a.f.proto a.f.ia a.f.ip a.f.fa a.f.fp a.f.state a.f.til = R at hS hO2 hF2
      obtain ⟨_, T2⟩ := R
      have hm2 := hO2.len
      (conv => whnf)
      refine (tlLag_ok (hS.blk 1 rfl) (hS.blk 0 rfl) hm2 htl2).mono ?_
      rintro v w' ⟨rfl, hx'⟩
      replace hS := hS.no hx'
      clear hx'
      (conv => whnf)
      refine (rlLag_ok (hS.get 2 rfl) (hS.get 3 rfl) hm2 htl2).mono ?_
      rintro v w' ⟨rfl, hx'⟩
      replace hS := hS.no hx'
      clear hx'
      (conv => whnf)
      refine brND (fun h => absurd rfl h) (fun _ => ?_)
      (conv => whnf)
      refine RngC.mk (by omega) (by omega) ?_
      (conv => whnf)
      refine LoopE.mk ⟨_, [(11, .int .i64 ((i + 1 : Nat) : Int)), (10, _), (9, _), (8, _), (6, _), (1, _)], ?_, ⟨rfl, rfl, rfl, rfl, rfl, rfl, trivial⟩, ⟨i + 1, T2, X, rfl, rfl, by omega, hS.keep 4, hO2, hF2, htl2, hcu2⟩⟩
      omega
    (conv => whnf)
    refine eqStr ?_
    (conv => whnf)
    refine brD (fun h6 => ?_) (fun h6 => ?_)
    · skip
      repeat' ((conv => whnf); first | refine RetC.mk ?_ | refine NzC.mk (by decide) ?_ | refine RngC.mk (by omega) (by omega) ?_ | refine IdxC.mk (by omega) (by omega) ?_ | refine hS.ld 4 rfl rfl ?_ | refine hS.la 4 rfl (l := [.int .i64 a.f.ia, .int .i64 a.f.ip]) rfl rfl ?_ | refine hS.la 4 rfl (l := [.int .i64 a.f.fa, .int .i64 a.f.fp]) rfl rfl ?_ | refine brD (fun _ => ?_) (fun _ => ?_) | refine brND (fun _ => ?_) (fun _ => ?_) | refine brN (fun _ => ?_) (fun _ => ?_) | refine brI (fun _ => ?_) (fun _ => ?_))
      refine (tset_ok a.slot a.f.state a.f.til (hS.blk 0 rfl) hm hv ((hE.sub rfl).ext hS.ext fun _ h => h.elim)).mono ?_
      rintro v w' ⟨rfl, hx', hB⟩
      replace hS := hS.upd 0 rfl hx' (fun c hc => by subst hc; exact List.mem_singleton.2 rfl) (blk_local _ _ _) hB (fun c hc => .inl hc)
      clear hx' hB
      repeat' ((conv => whnf); first | refine RetC.mk ?_ | refine NzC.mk (by decide) ?_ | refine RngC.mk (by omega) (by omega) ?_ | refine IdxC.mk (by omega) (by omega) ?_ | refine hS.ld 4 rfl rfl ?_ | refine hS.la 4 rfl (l := [.int .i64 a.f.ia, .int .i64 a.f.ip]) rfl rfl ?_ | refine hS.la 4 rfl (l := [.int .i64 a.f.fa, .int .i64 a.f.fp]) rfl rfl ?_ | refine brD (fun _ => ?_) (fun _ => ?_) | refine brND (fun _ => ?_) (fun _ => ?_) | refine brN (fun _ => ?_) (fun _ => ?_) | refine brI (fun _ => ?_) (fun _ => ?_))
      refine (rset_ok a.slot a.f.state a.f.til (hS.get 2 rfl) hO (by omega)).mono ?_
      rintro v w' ⟨rfl, hx', hT'⟩
      replace hS := hS.upd 2 rfl hx' (fun d hd => by subst hd; simp [refT]) refT_local hT' (fun d hd => .inl hd)
      clear hx' hT'
      have hO2 := hO.setS a.slot a.f.state a.f.til
      have hF2 := (T.setS_life a.slot a.f.state a.f.til).trans hF
      generalize T.setS a.slot a.f.state a.f.til = R at hS hO2 hF2
      obtain ⟨_, T2⟩ := R
      have hm2 := hO2.len
      (conv => whnf)
      refine (tlLag_ok (hS.blk 1 rfl) (hS.blk 0 rfl) hm2 htl2).mono ?_
      rintro v w' ⟨rfl, hx'⟩
      replace hS := hS.no hx'
      clear hx'
      (conv => whnf)
      refine (rlLag_ok (hS.get 2 rfl) (hS.get 3 rfl) hm2 htl2).mono ?_
      rintro v w' ⟨rfl, hx'⟩
      replace hS := hS.no hx'
      clear hx'
      (conv => whnf)
      refine brND (fun h => absurd rfl h) (fun _ => ?_)
      (conv => whnf)
      refine RngC.mk (by omega) (by omega) ?_
      (conv => whnf)
      refine LoopE.mk ⟨_, [(11, .int .i64 ((i + 1 : Nat) : Int)), (10, _), (9, _), (8, _), (6, _), (1, _)], ?_, ⟨rfl, rfl, rfl, rfl, rfl, rfl, trivial⟩, ⟨i + 1, T2, X, rfl, rfl, by omega, hS.keep 4, hO2, hF2, htl2, hcu2⟩⟩
      omega
    (conv => whnf)
    refine eqStr ?_
    (conv => whnf)
    refine brD (fun h7 => ?_) (fun h7 => ?_)
    · skip
      repeat' ((conv => whnf); first | refine RetC.mk ?_ | refine NzC.mk (by decide) ?_ | refine RngC.mk (by omega) (by omega) ?_ | refine IdxC.mk (by omega) (by omega) ?_ | refine hS.ld 4 rfl rfl ?_ | refine hS.la 4 rfl (l := [.int .i64 a.f.ia, .int .i64 a.f.ip]) rfl rfl ?_ | refine hS.la 4 rfl (l := [.int .i64 a.f.fa, .int .i64 a.f.fp]) rfl rfl ?_ | refine brD (fun _ => ?_) (fun _ => ?_) | refine brND (fun _ => ?_) (fun _ => ?_) | refine brN (fun _ => ?_) (fun _ => ?_) | refine brI (fun _ => ?_) (fun _ => ?_))
      refine (tdrop_ok a.slot (hS.blk 0 rfl) hm hv ((hE.sub rfl).ext hS.ext fun _ h => h.elim)).mono ?_
      rintro v w' ⟨rfl, hx', hB⟩
      replace hS := hS.upd 0 rfl hx' (fun c hc => by subst hc; exact List.mem_singleton.2 rfl) (blk_local _ _ _) hB (fun c hc => .inl hc)
      clear hx' hB
      repeat' ((conv => whnf); first | refine RetC.mk ?_ | refine NzC.mk (by decide) ?_ | refine RngC.mk (by omega) (by omega) ?_ | refine IdxC.mk (by omega) (by omega) ?_ | refine hS.ld 4 rfl rfl ?_ | refine hS.la 4 rfl (l := [.int .i64 a.f.ia, .int .i64 a.f.ip]) rfl rfl ?_ | refine hS.la 4 rfl (l := [.int .i64 a.f.fa, .int .i64 a.f.fp]) rfl rfl ?_ | refine brD (fun _ => ?_) (fun _ => ?_) | refine brND (fun _ => ?_) (fun _ => ?_) | refine brN (fun _ => ?_) (fun _ => ?_) | refine brI (fun _ => ?_) (fun _ => ?_))
      refine (rdrop_ok a.slot (hS.get 2 rfl) hO (by omega)).mono ?_
      rintro v w' ⟨rfl, hx', hT'⟩
      replace hS := hS.upd 2 rfl hx' (fun d hd => by subst hd; simp [refT]) refT_local hT' (fun d hd => .inl hd)
      clear hx' hT'
      have hO2 := hO.drop a.slot
      have hF2 := (T.drop_life' a.slot).trans hF
      generalize T.drop a.slot = R at hS hO2 hF2
      obtain ⟨_, T2⟩ := R
      have hm2 := hO2.len
      (conv => whnf)
      refine (tlLag_ok (hS.blk 1 rfl) (hS.blk 0 rfl) hm2 htl2).mono ?_
      rintro v w' ⟨rfl, hx'⟩
      replace hS := hS.no hx'
      clear hx'
      (conv => whnf)
      refine (rlLag_ok (hS.get 2 rfl) (hS.get 3 rfl) hm2 htl2).mono ?_
      rintro v w' ⟨rfl, hx'⟩
      replace hS := hS.no hx'
      clear hx'
      (conv => whnf)
      refine brND (fun h => absurd rfl h) (fun _ => ?_)
      (conv => whnf)
      refine RngC.mk (by omega) (by omega) ?_
      (conv => whnf)
      refine LoopE.mk ⟨_, [(11, .int .i64 ((i + 1 : Nat) : Int)), (10, _), (9, _), (8, _), (6, _), (1, _)], ?_, ⟨rfl, rfl, rfl, rfl, rfl, rfl, trivial⟩, ⟨i + 1, T2, X, rfl, rfl, by omega, hS.keep 4, hO2, hF2, htl2, hcu2⟩⟩
      omega
    have hP := picks_law T.cells hcu2
    have hap : ∀ d ∈ [bt, g], ¬ (d = bl ∨ d = gl) := fun d hd he => by
      have := pairwise_at apart_symm hS.apart (i := 2) (j := 3) rfl rfl (by decide) d hd
      simp [refL] at this
      omega
    have hnl := told_next T.cells htl2
    (conv => whnf)
    refine (tlNext_ok (hS.blk 1 rfl) (hS.blk 0 rfl) hm htl2 hcu2).mono ?_
    rintro v w' ⟨⟨a', c', rfl⟩, hx', hB, ho, hf⟩
    replace hS := hS.updMade 1 rfl hx' (fun c hc => by subst hc; exact List.mem_singleton.2 rfl) (blk_local _ _ _) hB (fun c hc => hc) ownL_local ho (fun g hg => hf g (by simpa [ownL, own] using hg))
    clear hx' hB ho hf
    (conv => whnf)
    refine (rlNext_ok (hS.get 2 rfl) (hS.get 3 rfl) hap hO htl2 hcu2).mono ?_
    rintro v w' ⟨⟨a2, c2, rfl⟩, hx', hB, ho, hf⟩
    replace hS := hS.updMade 3 rfl hx' (fun d hd => by simpa [refL] using hd) refL_local hB (fun c hc => hc) ownL_local ho (fun g hg => hf g (by simpa [ownL, own] using hg))
    clear hx' hB ho hf
    have hlen := outC_len T.cells (X.picks T.cells)
    have hcu3 := hP.cur
    generalize X.next T.cells = X2 at hS hcu3 hnl
    clear htl2 hcu2
    have htl2 := hnl
    have hcu2 := hcu3
    (conv => whnf)
    refine (sameCells_same (ownL_slc (G := fun _ => True) codCell (hS.get 5 rfl) fun _ _ => trivial) (ownL_slc (G := fun _ => True) codCell (hS.get 6 rfl) fun _ _ => trivial)).mono ?_
    rintro v w' ⟨rfl, hx'⟩
    replace hS := hS.no hx'
    clear hx'
    have hO2 := hO.succ
    have hF2 := hF
    have hm2 := hm
    (conv => whnf)
    refine (tlLag_ok (hS.blk 1 rfl) (hS.blk 0 rfl) hm2 htl2).mono ?_
    rintro v w' ⟨rfl, hx'⟩
    replace hS := hS.no hx'
    clear hx'
    (conv => whnf)
    refine (rlLag_ok (hS.get 2 rfl) (hS.get 3 rfl) hm2 htl2).mono ?_
    rintro v w' ⟨rfl, hx'⟩
    replace hS := hS.no hx'
    clear hx'
    (conv => whnf)
    refine brND (fun h => absurd rfl h) (fun _ => ?_)
    (conv => whnf)
    refine RngC.mk (by omega) (by omega) ?_
    (conv => whnf)
    refine LoopE.mk ⟨_, [(11, .int .i64 ((i + 1 : Nat) : Int)), (10, _), (9, _), (8, _), (6, _), (1, _)], ?_, ⟨rfl, rfl, rfl, rfl, rfl, rfl, trivial⟩, ⟨i + 1, T, X2, rfl, rfl, by omega, hS.keep 4, hO2, hF2, htl2, hcu2⟩⟩
    omega
  · repeat' ((conv => whnf); first | refine RetC.mk ?_ | refine NzC.mk (by decide) ?_ | refine RngC.mk (by omega) (by omega) ?_ | refine IdxC.mk (by omega) (by omega) ?_ | refine brD (fun _ => ?_) (fun _ => ?_) | refine brND (fun _ => ?_) (fun _ => ?_) | refine brN (fun _ => ?_) (fun _ => ?_) | refine brI (fun _ => ?_) (fun _ => ?_))
    exact ⟨rfl, hS.ext⟩

theorem tellerNext_walk {E : Nat → Addr} (W : World) (args : List Value) (hE : Errs W E W.heap.size [2, 4, 5, 6]) (ha : ArgsOk Tryd.prog W [3, 22] args) :
    CallC Tryd.prog 3 args.toArray W fun v w' => v = .bool true ∧ Ext No W w' := by
  obtain ⟨v0, args, rfl, h0, ha⟩ := ha.cons
  obtain ⟨v1, args, rfl, h1, ha⟩ := ha.cons
  obtain rfl := ha.nil
  obtain ⟨x0, rfl, _⟩ := arg_int Tryd.underlying3 h0
  obtain ⟨d, hd⟩ : ∃ d, 10 ≤ d := ⟨10, Nat.le_refl _⟩
  obtain ⟨a0, n0, c0, xs, rfl, hx, _⟩ := arg_slice (d := d) (sz := 10) Tryd.underlying22 (by kernel_rfl) (by decide) (dec_act hd) h1
  exact tellerNext_ok W hE x0 a0 n0 c0 xs hx
end Go.Proofs.YteakdmngllfodaaDoor
