
/-
  TableActs returns true whatever its arguments.
-/
import Derived.Test.YteakdmngllfodaaDoorRefTable
import Derived.Test.YteakdmngllfodaaDoorAs
import Derived.Test.YteakdmngllfodaaDoorEvM
namespace Go.Proofs.YteakdmngllfodaaDoor
open Go Ev

theorem lfound_ok (k : Int) (is : Bool) (w : World) (hk : 0 ≤ k ∧ k ≤ 1000) : CallC Tryd.prog 39 #[.int .i64 k, .bool is] w fun v w' => v = .int .i64 (match is with | true => k | false => -1 - k) ∧ w = w' := by
  refine fn_intro tabOk Tryd.func39 (by kernel_rfl) rfl Tryd.ntmps39 (Nat.le_of_ble_eq_true rfl) ?_
  cases is
  all_goals
    repeat' ((conv => whnf); first | refine RetC.mk ?_ | refine NzC.mk (by decide) ?_ | refine RngC.mk (by omega) (by omega) ?_ | refine IdxC.mk (by omega) (by omega) ?_ | refine brD (fun _ => ?_) (fun _ => ?_) | refine brND (fun _ => ?_) (fun _ => ?_) | refine brN (fun _ => ?_) (fun _ => ?_) | refine brI (fun _ => ?_) (fun _ => ?_))
    exact ⟨rfl, rfl⟩
theorem lfound_at {k : Int} (h : k = -1 ∨ 0 ≤ k) : (match decide (0 ≤ k) with | true => atI k | false => -1 - atI k) = k := by
  rcases h with rfl | h
  · rfl
  · rw [decide_eq_true h]
    unfold atI
    rw [if_neg (by omega)]
theorem find_range (T : MirS) (pr ia ip fa fp : Int) (hm : T.cells.length = 32) : (T.find pr ia ip fa fp = -1 ∨ 0 ≤ T.find pr ia ip fa fp) ∧ T.find pr ia ip fa fp < 32 := by
  have := idxI_bound (there (fitF pr ia ip fa fp)) T.cells 0
  unfold MirS.find
  omega
theorem back_range (T : MirS) (pr po fa fp : Int) (hm : T.cells.length = 32) : (T.back pr po fa fp = -1 ∨ 0 ≤ T.back pr po fa fp) ∧ T.back pr po fa fp < 32 := by
  have := idxI_bound (there (fitB pr po fa fp)) T.cells 0
  unfold MirS.back
  omega
theorem atI_range {k : Int} (h : k < 32) : 0 ≤ atI k ∧ atI k ≤ 1000 := by
  unfold atI
  split <;> omega

theorem tableActs_ok {E : Nat → Addr} (W : World) (hE : Errs W E W.heap.size allErrs) (hh : Handle W) (nd : Int) (a0 : Option Addr) (n0 c0 : Nat) (acts : List ActS) (hx : Slc W 10 encA (fun _ => True) a0 n0 acts) :
    CallC Tryd.prog 6 #[.int .i64 nd, .slice a0 n0 c0] W fun v w' => v = .bool true ∧ Ext No W w' := by
  have hm0 := hx.max
  refine fn_intro tabOk Tryd.func6 (by kernel_rfl) rfl Tryd.ntmps6 (Nat.le_of_ble_eq_true rfl) ?_
  have hS := St.start W No
  (conv => whnf)
  refine (listed_ok _ (hE.sub rfl) (Nat.le_refl _)).mono ?_
  rintro v w' ⟨rfl, hx'⟩
  replace hS := hS.no hx'
  clear hx'
  (conv => whnf)
  refine brD (fun h1 => ?_) (fun h1 => ?_)
  · repeat' ((conv => whnf); first | refine RetC.mk ?_ | refine NzC.mk (by decide) ?_ | refine RngC.mk (by omega) (by omega) ?_ | refine IdxC.mk (by omega) (by omega) ?_ | refine brD (fun _ => ?_) (fun _ => ?_) | refine brND (fun _ => ?_) (fun _ => ?_) | refine brN (fun _ => ?_) (fun _ => ?_) | refine brI (fun _ => ?_) (fun _ => ?_))
    exact ⟨rfl, hS.ext⟩
  by_cases hnd : nd = 0 ∨ nd = 1
  · (conv => whnf)
    refine (tnew_ok nd _ hnd).mono ?_
    rintro v w' ⟨b, rfl, hb, hx', hB⟩
    replace hS := hS.made hx' (blk_local _ _ _) hB (by simp [blk]; exact ⟨hb, hB.lt⟩)
    have fb := hS.fresh 0 rfl
    clear hx' hB hb
    (conv => whnf)
    refine brD (fun h => absurd h (by omega)) (fun _ => ?_)
    (conv => whnf)
    refine brD (fun h => absurd h (by omega)) (fun _ => ?_)
    (conv => whnf)
    refine (newTable_ok nd hnd _).mono ?_
    rintro v w' ⟨bt, g, c, rfl, hx', hT, hf⟩
    replace hS := hS.made hx' refT_local hT hf
    clear hx' hT hf
    (conv => whnf)
    refine loopM (fun σ w q => ∃ (i : Nat) (T : MirS), σ = [(9, .int .i64 i), (8, .pointer (some ⟨bt, 0, none⟩)), (6, .pointer (some ⟨b, 0, none⟩)), (1, .slice a0 n0 c0)] ∧ q = n0 - i ∧ i ≤ n0 ∧ St W No w [blk b 100 (encM T), refT bt g c T] ∧ TOk i T ∧ T.life = 2000 + nd * 24)
      (σ' := [(9, .int .i64 ((0 : Nat) : Int)), (8, .pointer (some ⟨bt, 0, none⟩)), (6, .pointer (some ⟨b, 0, none⟩)), (1, .slice a0 n0 c0)]) (n := n0) ⟨rfl, rfl, rfl, rfl, trivial⟩ ⟨0, ⟨2000 + nd * 24, emptyCells⟩, rfl, rfl, Nat.zero_le _, hS, TOk.empty _, rfl⟩ ?_
    clear hS
    rintro _ w q ⟨i, T, rfl, rfl, hi, hS, hO, hF⟩
    have hv := hO.verOk (by omega)
    have hm := hO.len
    refine EvC.seq tabOk ?_
    (conv => whnf)
    refine brD (fun h4 => ?_) (fun h4 => ?_)
    · obtain ⟨b0, o0, a, _, _, rfl, hb0, hc⟩ := hx.at (k := i) (by omega)
      (conv => whnf)
      refine EvC.cut (fun σ w => ∃ T' : MirS, σ = [(9, .int .i64 i), (8, .pointer (some ⟨bt, 0, none⟩)), (6, .pointer (some ⟨b, 0, none⟩)), (1, .slice (some ⟨b0, o0, none⟩) n0 c0)] ∧ St W No w [blk b 100 (encM T'), refT bt g c T'] ∧ TOk (i + 1) T' ∧ T'.life = 2000 + nd * 24) ?_ ?_
      · refine EvC.block ?_
        refine EvC.seq tabOk ?_
        (conv => whnf)
        refine IdxC.mk (by omega) (by omega) ?_
        (conv => whnf)
        refine hS.lar (l := encA a) rfl hc id ?_
        (conv => whnf)
        refine hS.new (fun b10 w' hb10 hS => ?_)
        (conv => whnf)
        refine hS.st 2 rfl (Nat.le_of_ble_eq_true rfl) rfl (fun w' hS => ?_)
        replace hS : St W No w' [blk b 100 (encM T), refT bt g c T, blk b10 40 (encA a)] := hS
        have f10 := hS.fresh 2 rfl
        have hfoot : ∀ d, d = b ∨ d = g → W.heap.size ≤ d := by
          rintro d (rfl | rfl)
          · exact fb
          · exact (hS.may _ (List.mem_of_getElem? (i := 1) rfl) d (by simp [refT])).1.resolve_left id
        have h10b : ¬ (b10 = b ∨ b10 = g) := by
          rintro (rfl | rfl)
          · exact hS.ne 2 0 rfl rfl (by decide) rfl
          · have := pairwise_at apart_symm hS.apart (i := 1) (j := 2) rfl rfl (by decide) b10 (by simp [refT])
            simp [blk] at this
        (conv => whnf)
        refine EvC.cut (fun σ w => ∃ T' : MirS, σ = [(10, .pointer (some ⟨b10, 0, none⟩)), (9, .int .i64 i), (8, .pointer (some ⟨bt, 0, none⟩)), (6, .pointer (some ⟨b, 0, none⟩)), (1, .slice (some ⟨b0, o0, none⟩) n0 c0)] ∧ St W No w [blk b 100 (encM T'), refT bt g c T', blk b10 40 (encA a)] ∧ TOk (i + 1) T' ∧ T'.life = 2000 + nd * 24) ?_ ?_
        · refine EvC.ev tabOk ?_
          (conv => whnf)
          refine hS.ld 2 rfl rfl ?_
          (conv => whnf)
          refine eqStr ?_
          (conv => whnf)
          refine brD (fun h5 => ?_) (fun h5 => ?_)
          · repeat' ((conv => whnf); first | refine RetC.mk ?_ | refine NzC.mk (by decide) ?_ | refine RngC.mk (by omega) (by omega) ?_ | refine IdxC.mk (by omega) (by omega) ?_ | refine hS.ld 2 rfl rfl ?_ | refine hS.la 2 rfl (l := [.int .i64 a.f.ia, .int .i64 a.f.ip]) rfl rfl ?_ | refine hS.la 2 rfl (l := [.int .i64 a.f.fa, .int .i64 a.f.fp]) rfl rfl ?_ | refine brD (fun _ => ?_) (fun _ => ?_) | refine brND (fun _ => ?_) (fun _ => ?_) | refine brN (fun _ => ?_) (fun _ => ?_) | refine brI (fun _ => ?_) (fun _ => ?_))
            refine (tadd_ok a.f.proto a.f.ia a.f.ip a.f.fa a.f.fp a.f.state a.f.til (hS.blk 0 rfl) hm hv (by omega) ((hE.sub rfl).ext hS.ext fun _ h => h.elim) fb).mono ?_
            rintro v w' ⟨rfl, hx', hB⟩
            replace hS := hS.upd 0 rfl hx' (fun c hc => by subst hc; exact List.mem_singleton.2 rfl) (blk_local _ _ _) hB (fun c hc => .inl hc)
            clear hx' hB
            repeat' ((conv => whnf); first | refine RetC.mk ?_ | refine NzC.mk (by decide) ?_ | refine RngC.mk (by omega) (by omega) ?_ | refine IdxC.mk (by omega) (by omega) ?_ | refine hS.ld 2 rfl rfl ?_ | refine hS.la 2 rfl (l := [.int .i64 a.f.ia, .int .i64 a.f.ip]) rfl rfl ?_ | refine hS.la 2 rfl (l := [.int .i64 a.f.fa, .int .i64 a.f.fp]) rfl rfl ?_ | refine brD (fun _ => ?_) (fun _ => ?_) | refine brND (fun _ => ?_) (fun _ => ?_) | refine brN (fun _ => ?_) (fun _ => ?_) | refine brI (fun _ => ?_) (fun _ => ?_))
            refine (radd_ok a.f.proto a.f.ia a.f.ip a.f.fa a.f.fp a.f.state a.f.til (hS.get 1 rfl) hO (by omega) (by omega)).mono ?_
            rintro v w' ⟨rfl, hx', hT'⟩
            replace hS := hS.upd 1 rfl hx' (fun d hd => by subst hd; simp [refT]) refT_local hT' (fun d hd => .inl hd)
            clear hx' hT'
            have hO2 := hO.add a.f.proto a.f.ia a.f.ip a.f.fa a.f.fp a.f.state a.f.til
            have hF2 := T.add_life' a.f.proto a.f.ia a.f.ip a.f.fa a.f.fp a.f.state a.f.til
            have hcode := T.add_code a.f.proto a.f.ia a.f.ip a.f.fa a.f.fp a.f.state a.f.til
            generalize T.add a.f.proto a.f.ia a.f.ip a.f.fa a.f.fp a.f.state a.f.til = R at hS hO2 hF2 hcode
            (conv => whnf)
            refine (coded1_same _ hcode _ (hE.ext hS.ext fun _ h => h.elim) (hh.ext hS.ext)).mono ?_
            rintro v w' ⟨rfl, hx'⟩
            replace hS := hS.no hx'
            (conv => whnf)
            refine brND (fun h => absurd rfl h) (fun _ => ?_)
            (conv => whnf)
            exact CutE.mk ⟨[(10, _), (9, _), (8, _), (6, _), (1, _)], ⟨rfl, rfl, rfl, rfl, rfl, trivial⟩, R.2, rfl, hS, hO2, hF2.trans hF⟩
          (conv => whnf)
          refine eqStr ?_
          (conv => whnf)
          refine brD (fun h5 => ?_) (fun h5 => ?_)
          · (conv => whnf)
            refine hS.la 2 rfl (l := encFlow a.f) rfl rfl ?_
            (conv => whnf)
            refine (tput_ok a.f (hS.blk 0 rfl) hm hv ((hE.sub rfl).ext hS.ext fun _ h => h.elim) fb).mono ?_
            rintro v w' ⟨rfl, hx', hB⟩
            replace hS := hS.upd 0 rfl hx' (fun c hc => by subst hc; exact List.mem_singleton.2 rfl) (blk_local _ _ _) hB (fun c hc => .inl hc)
            clear hx' hB
            (conv => whnf)
            refine hS.la 2 rfl (l := encFlow a.f) rfl rfl ?_
            (conv => whnf)
            refine (rput_ok a.f (hS.get 1 rfl) hO (by omega)).mono ?_
            rintro v w' ⟨rfl, hx', hT'⟩
            replace hS := hS.upd 1 rfl hx' (fun d hd => by subst hd; simp [refT]) refT_local hT' (fun d hd => .inl hd)
            clear hx' hT'
            have hO2 := hO.put a.f
            have hF2 := T.put_life' a.f
            have hcode := T.put_code a.f
            generalize T.put a.f = R at hS hO2 hF2 hcode
            (conv => whnf)
            refine (coded1_same _ hcode _ (hE.ext hS.ext fun _ h => h.elim) (hh.ext hS.ext)).mono ?_
            rintro v w' ⟨rfl, hx'⟩
            replace hS := hS.no hx'
            (conv => whnf)
            refine brND (fun h => absurd rfl h) (fun _ => ?_)
            (conv => whnf)
            exact CutE.mk ⟨[(10, _), (9, _), (8, _), (6, _), (1, _)], ⟨rfl, rfl, rfl, rfl, rfl, trivial⟩, R.2, rfl, hS, hO2, hF2.trans hF⟩
          (conv => whnf)
          refine eqStr ?_
          (conv => whnf)
          refine brD (fun h5 => ?_) (fun h5 => ?_)
          · (conv => whnf)
            (refine drawS tabOk mixed [] (fun d => d = b ∨ d = g) [0, 1, 2, 3, 4, 5, 6, 7, 8, 10, 11, 12, 13, 14, 15, 16, 17, 18, 9, 19, 20, 21] (by kernel_rfl) ?_; rintro w1 rfl; replace hS := hS.drew)
            repeat' ((conv => whnf); first | refine RetC.mk ?_ | refine NzC.mk (by decide) ?_ | refine RngC.mk (by omega) (by omega) ?_ | refine IdxC.mk (by omega) (by omega) ?_ | refine hS.ldF 2 rfl rfl h10b ?_ | refine brD (fun _ => ?_) (fun _ => ?_) | refine brND (fun _ => ?_) (fun _ => ?_) | refine brN (fun _ => ?_) (fun _ => ?_) | refine brI (fun _ => ?_) (fun _ => ?_))
            refine (tset_ok a.slot a.f.state a.f.til (hS.blk 0 rfl) hm hv ((hE.sub rfl).ext hS.ext fun _ h => h.elim)).mono ?_
            rintro v w' ⟨rfl, hx', hB⟩
            replace hS := hS.upd 0 rfl hx' (fun c hc => by subst hc; exact List.mem_singleton.2 rfl) (blk_local _ _ _) hB (fun c hc => .inl hc)
            have hk := hx'.mono (T := fun d => d = b ∨ d = g) (fun d hd => .inl hd)
            refine KeepC.mk hk ?_
            clear hx' hB
            (conv => whnf)
            refine (rset_ok a.slot a.f.state a.f.til (hS.get 1 rfl) hO (by omega)).mono ?_
            rintro v w' ⟨rfl, hx', hT'⟩
            replace hS := hS.upd 1 rfl hx' (fun d hd => by subst hd; simp [refT]) refT_local hT' (fun d hd => .inl hd)
            replace hk := hk.trans (hx'.mono (T := fun d => d = b ∨ d = g) (fun d hd => .inr hd))
            refine KeepC.mk hk ?_
            clear hx' hT'
            have hO2 := hO.setS a.slot a.f.state a.f.til
            have hF2 := T.setS_life a.slot a.f.state a.f.til
            have hcode := T.setS_code a.slot a.f.state a.f.til
            generalize T.setS a.slot a.f.state a.f.til = R at hS hO2 hF2 hcode
            (conv => whnf)
            refine (coded1_same _ hcode _ (hE.ext hS.ext fun _ h => h.elim) (hh.ext hS.ext)).mono ?_
            rintro v w' ⟨rfl, hx'⟩
            replace hS := hS.no hx'
            refine KeepC.mk (hk.trans hx'.of_no) ?_
            (conv => whnf)
            exact CutE.mk ⟨[(10, _), (9, _), (8, _), (6, _), (1, _)], ⟨rfl, rfl, rfl, rfl, rfl, trivial⟩, R.2, rfl, hS, hO2, hF2.trans hF⟩
          (conv => whnf)
          refine eqStr ?_
          (conv => whnf)
          refine brD (fun h5 => ?_) (fun h5 => ?_)
          · (conv => whnf)
            (refine drawS tabOk mixed [] (fun d => d = b ∨ d = g) [0, 1, 2, 4, 5, 6, 3, 7, 8, 9] (by kernel_rfl) ?_; rintro w1 rfl; replace hS := hS.drew)
            repeat' ((conv => whnf); first | refine RetC.mk ?_ | refine NzC.mk (by decide) ?_ | refine RngC.mk (by omega) (by omega) ?_ | refine IdxC.mk (by omega) (by omega) ?_ | refine hS.ldF 2 rfl rfl h10b ?_ | refine brD (fun _ => ?_) (fun _ => ?_) | refine brND (fun _ => ?_) (fun _ => ?_) | refine brN (fun _ => ?_) (fun _ => ?_) | refine brI (fun _ => ?_) (fun _ => ?_))
            refine (tdrop_ok a.slot (hS.blk 0 rfl) hm hv ((hE.sub rfl).ext hS.ext fun _ h => h.elim)).mono ?_
            rintro v w' ⟨rfl, hx', hB⟩
            replace hS := hS.upd 0 rfl hx' (fun c hc => by subst hc; exact List.mem_singleton.2 rfl) (blk_local _ _ _) hB (fun c hc => .inl hc)
            have hk := hx'.mono (T := fun d => d = b ∨ d = g) (fun d hd => .inl hd)
            refine KeepC.mk hk ?_
            clear hx' hB
            (conv => whnf)
            refine (rdrop_ok a.slot (hS.get 1 rfl) hO (by omega)).mono ?_
            rintro v w' ⟨rfl, hx', hT'⟩
            replace hS := hS.upd 1 rfl hx' (fun d hd => by subst hd; simp [refT]) refT_local hT' (fun d hd => .inl hd)
            replace hk := hk.trans (hx'.mono (T := fun d => d = b ∨ d = g) (fun d hd => .inr hd))
            refine KeepC.mk hk ?_
            clear hx' hT'
            have hO2 := hO.drop a.slot
            have hF2 := T.drop_life' a.slot
            have hcode := T.drop_code a.slot
            generalize T.drop a.slot = R at hS hO2 hF2 hcode
            (conv => whnf)
            refine (coded1_same _ hcode _ (hE.ext hS.ext fun _ h => h.elim) (hh.ext hS.ext)).mono ?_
            rintro v w' ⟨rfl, hx'⟩
            replace hS := hS.no hx'
            refine KeepC.mk (hk.trans hx'.of_no) ?_
            (conv => whnf)
            exact CutE.mk ⟨[(10, _), (9, _), (8, _), (6, _), (1, _)], ⟨rfl, rfl, rfl, rfl, rfl, trivial⟩, R.2, rfl, hS, hO2, hF2.trans hF⟩
          (conv => whnf)
          refine eqStr ?_
          (conv => whnf)
          refine brD (fun h5 => ?_) (fun h5 => ?_)
          · have fbt := (hS.may _ (List.mem_of_getElem? (i := 1) rfl) bt (by simp [refT])).1.resolve_left id
            have h10t : b10 ≠ bt := by
              rintro rfl
              have := pairwise_at apart_symm hS.apart (i := 1) (j := 2) rfl rfl (by decide) b10 (by simp [refT])
              simp [blk] at this
            (conv => whnf)
            (refine drawS tabOk mixed [] (fun d => d = b ∨ (d = bt ∨ d = g)) [0, 1, 2, 3, 5, 6, 7, 8, 4, 9, 10, 11] (by kernel_rfl) ?_; rintro w1 rfl; replace hS := hS.drew)
            repeat' ((conv => whnf); first | refine RetC.mk ?_ | refine NzC.mk (by decide) ?_ | refine RngC.mk (by omega) (by omega) ?_ | refine IdxC.mk (by omega) (by omega) ?_ | refine hS.ldF 2 rfl rfl (by rintro (h | h | h); exact h10b (.inl h); exact h10t h; exact h10b (.inr h)) ?_ | refine brD (fun _ => ?_) (fun _ => ?_) | refine brND (fun _ => ?_) (fun _ => ?_) | refine brN (fun _ => ?_) (fun _ => ?_) | refine brI (fun _ => ?_) (fun _ => ?_))
            refine (texpire_ok a.f.til (hS.blk 0 rfl) hO (by omega) ((hE.sub rfl).ext hS.ext fun _ h => h.elim) fb).mono ?_
            rintro v w' ⟨⟨a2, c2, rfl⟩, hx', hB, hI, hFr⟩
            have hk := hx'.mono (T := fun d => d = b ∨ (d = bt ∨ d = g)) (fun d hd => .inl hd)
            refine KeepC.mk hk ?_
            replace hS := hS.updMade 0 rfl hx' (fun d hd => by subst hd; exact List.mem_singleton.2 rfl) (blk_local _ _ _) hB (fun d hd => hd) (own_local _ _ _ _ _) hI (fun q hq => hFr q (by simpa [ownL, own] using hq))
            clear hx' hB hI hFr
            (conv => whnf)
            refine (rexpire_ok a.f.til (hS.get 1 rfl) hO (by omega)).mono ?_
            rintro v w' ⟨⟨a3, c3, rfl⟩, hx', hT', hI, hFr⟩
            replace hS := hS.updMade 1 rfl hx' (fun d hd => by simp only [refT, List.mem_cons, List.not_mem_nil, or_false]; exact hd) refT_local hT' (fun d hd => hd) (own_local _ _ _ _ _) hI (fun q hq => hFr q (by simpa [ownL, own] using hq))
            replace hk := hk.trans (hx'.mono (T := fun d => d = b ∨ (d = bt ∨ d = g)) (fun d hd => .inr hd))
            refine KeepC.mk hk ?_
            clear hx' hT' hI hFr
            (conv => whnf)
            refine (sameInts_ok (ownL_slc (G := fun _ => True) codInt (hS.get 3 rfl) fun _ _ => trivial) (ownL_slc codInt (hS.get 4 rfl) fun _ _ => trivial)).mono ?_
            rw [decide_eq_true rfl]
            rintro v w' ⟨rfl, hx'⟩
            replace hS := hS.no hx'
            refine KeepC.mk (hk.trans hx'.of_no) ?_
            (conv => whnf)
            exact CutE.mk ⟨[(10, _), (9, _), (8, _), (6, _), (1, _)], ⟨rfl, rfl, rfl, rfl, rfl, trivial⟩, T.expire a.f.til, rfl, hS.keep 3, hO.expire a.f.til 32, hF⟩
          · (conv => whnf)
            exact CutE.mk ⟨[(10, _), (9, _), (8, _), (6, _), (1, _)], ⟨rfl, rfl, rfl, rfl, rfl, trivial⟩, T, rfl, hS, hO.succ, hF⟩
        · clear hS hO hF hv hm
          rintro _ w ⟨T, rfl, hS, hO, hF⟩
          have hm := hO.len
          refine EvC.ev tabOk ?_
          repeat' ((conv => whnf); first | refine RetC.mk ?_ | refine NzC.mk (by decide) ?_ | refine RngC.mk (by omega) (by omega) ?_ | refine IdxC.mk (by omega) (by omega) ?_ | refine hS.ld 2 rfl rfl ?_ | refine hS.la 2 rfl (l := [.int .i64 a.f.ia, .int .i64 a.f.ip]) rfl rfl ?_ | refine hS.la 2 rfl (l := [.int .i64 a.f.fa, .int .i64 a.f.fp]) rfl rfl ?_ | refine brD (fun _ => ?_) (fun _ => ?_) | refine brND (fun _ => ?_) (fun _ => ?_) | refine brN (fun _ => ?_) (fun _ => ?_) | refine brI (fun _ => ?_) (fun _ => ?_))
          refine (tfind_ok a.f.proto a.f.ia a.f.ip a.f.fa a.f.fp (hS.blk 0 rfl) hm).mono ?_
          rintro v w' ⟨rfl, hx'⟩
          replace hS := hS.no hx'
          clear hx'
          repeat' ((conv => whnf); first | refine RetC.mk ?_ | refine NzC.mk (by decide) ?_ | refine RngC.mk (by omega) (by omega) ?_ | refine IdxC.mk (by omega) (by omega) ?_ | refine hS.ld 2 rfl rfl ?_ | refine hS.la 2 rfl (l := [.int .i64 a.f.fa, .int .i64 a.f.fp]) rfl rfl ?_ | refine brD (fun _ => ?_) (fun _ => ?_) | refine brND (fun _ => ?_) (fun _ => ?_) | refine brN (fun _ => ?_) (fun _ => ?_) | refine brI (fun _ => ?_) (fun _ => ?_))
          refine (tback_ok a.f.proto a.f.port a.f.fa a.f.fp (hS.blk 0 rfl) hm).mono ?_
          rintro v w' ⟨rfl, hx'⟩
          replace hS := hS.no hx'
          clear hx'
          have fr := find_range T a.f.proto a.f.ia a.f.ip a.f.fa a.f.fp hm
          have br_ := back_range T a.f.proto a.f.port a.f.fa a.f.fp hm
          have rf := fun (w' : World) (h : (refT bt g c T).holds w') => rfind_ok a.f.proto a.f.ia a.f.ip a.f.fa a.f.fp h
          have rb := fun (w' : World) (h : (refT bt g c T).holds w') => rback_ok a.f.proto a.f.port a.f.fa a.f.fp h
          generalize T.find a.f.proto a.f.ia a.f.ip a.f.fa a.f.fp = k1 at fr rf
          generalize T.back a.f.proto a.f.port a.f.fa a.f.fp = k2 at br_ rb
          have lf1 := fun w => lfound_ok (atI k1) (decide (0 ≤ k1)) w (atI_range fr.2)
          have lf2 := fun w => lfound_ok (atI k2) (decide (0 ≤ k2)) w (atI_range br_.2)
          simp only [lfound_at fr.1] at lf1
          simp only [lfound_at br_.1] at lf2
          have hrf := hS.get 1 rfl
          have nk : ∀ {w' : World} {k : Nat}, Ext No { w' with drawn := k } w' → True := fun _ => trivial
          repeat' ((conv => whnf); first | refine RetC.mk ?_ | refine NzC.mk (by decide) ?_ | refine RngC.mk (by omega) (by omega) ?_ | refine IdxC.mk (by omega) (by omega) ?_ | (refine drawL tabOk mixed [] No [0, 1, 2, 3, 4, 5, 6, 7, 8, 9, 10, 11, 12, 13] rfl (by kernel_rfl) ?_; rintro w1 rfl; replace hS := hS.drew) | (refine drawL tabOk mixed [] No [0, 1, 2, 3, 4, 5, 6, 7, 8, 10, 11, 12, 13, 14, 15, 16, 17, 18, 9, 19, 20, 21] rfl (by kernel_rfl) ?_; rintro w1 rfl; replace hS := hS.drew) | (refine drawL tabOk mixed [] No [0, 1, 2, 3, 5, 6, 7, 8, 4, 9, 10, 11] rfl (by kernel_rfl) ?_; rintro w1 rfl; replace hS := hS.drew) | (refine drawL tabOk mixed [] No [0, 1, 2, 4, 5, 6, 3, 7, 8, 9] rfl (by kernel_rfl) ?_; rintro w1 rfl; replace hS := hS.drew) | (refine drawL tabOk mixed [] No [0, 1, 3, 4, 5, 6, 7, 8, 9, 10, 11, 12, 2, 13, 14, 15, 16, 17, 19, 20, 21, 22, 23, 24, 25, 26, 27, 28, 18, 29, 30, 31] rfl (by kernel_rfl) ?_; rintro w1 rfl; replace hS := hS.drew) | (refine drawL tabOk mixed [] No [0, 2, 3, 4, 5, 1, 6, 7] rfl (by kernel_rfl) ?_; rintro w1 rfl; replace hS := hS.drew) | refine hS.ldF 2 rfl rfl id ?_ | refine hS.laF 2 rfl (l := [.int .i64 a.f.ia, .int .i64 a.f.ip]) rfl rfl id ?_ | refine hS.laF 2 rfl (l := [.int .i64 a.f.fa, .int .i64 a.f.fp]) rfl rfl id ?_ | refine brD (fun _ => ?_) (fun _ => ?_) | refine brND (fun _ => ?_) (fun _ => ?_) | refine brN (fun _ => ?_) (fun _ => ?_) | refine brI (fun _ => ?_) (fun _ => ?_))
          have hS1 := hS
          refine (lf1 _).mono ?_
          rintro v w' ⟨rfl, rfl⟩
          refine KeepC.mk (Ext.refl _ _) ?_
          (conv => whnf)
          refine (rf _ (hS.get 1 rfl)).mono ?_
          rintro v w' ⟨rfl, hx'⟩
          replace hS := hS.no hx'
          refine KeepC.mk hx' ?_
          repeat' ((conv => whnf); first | refine RetC.mk ?_ | refine NzC.mk (by decide) ?_ | refine RngC.mk (by omega) (by omega) ?_ | refine IdxC.mk (by omega) (by omega) ?_ | refine hS1.ldF 2 rfl rfl id ?_ | refine hS1.laF 2 rfl (l := [.int .i64 a.f.fa, .int .i64 a.f.fp]) rfl rfl id ?_ | refine brD (fun _ => ?_) (fun _ => ?_) | refine brND (fun _ => ?_) (fun _ => ?_) | refine brN (fun _ => ?_) (fun _ => ?_) | refine brI (fun _ => ?_) (fun _ => ?_))
          · exact absurd rfl (by assumption)
          refine (lf2 _).mono ?_
          rintro v w3 ⟨rfl, rfl⟩
          refine KeepC.mk hx' ?_
          (conv => whnf)
          refine (rb _ (hS.get 1 rfl)).mono ?_
          rintro v w3 ⟨rfl, hx2⟩
          replace hS := hS.no hx2
          refine KeepC.mk (hx'.trans hx2) ?_
          (conv => whnf)
          refine brND (fun h => absurd rfl h) (fun _ => ?_)
          clear rf rb lf1 lf2 hrf hx' hx2
          (conv => whnf)
          refine hS.ld 2 rfl rfl ?_
          (conv => whnf)
          have fin : ∀ (w : World), St W No w [blk b 100 (encM T), refT bt g c T] → ∃ T' : MirS, ([(9, .int .i64 i), (8, .pointer (some ⟨bt, 0, none⟩)), (6, .pointer (some ⟨b, 0, none⟩)), (1, .slice (some ⟨b0, o0, none⟩) n0 c0)] : Slots) = [(9, .int .i64 i), (8, .pointer (some ⟨bt, 0, none⟩)), (6, .pointer (some ⟨b, 0, none⟩)), (1, .slice (some ⟨b0, o0, none⟩) n0 c0)] ∧ St W No w [blk b 100 (encM T'), refT bt g c T'] ∧ TOk (i + 1) T' ∧ T'.life = 2000 + nd * 24 := fun w h => ⟨T, rfl, h, hO, hF⟩
          by_cases hs : a.slot < 0 ∨ 32 ≤ a.slot
          · refine (tget_bad a.slot ((hE.sub rfl).ext hS.ext fun _ h => h.elim) hs).mono ?_
            rintro v w' ⟨rfl, hx'⟩
            replace hS := hS.no hx'
            clear hx'
            (conv => whnf)
            refine hS.new (fun bc w' hbc hS => ?_)
            (conv => whnf)
            refine hS.st 3 rfl (Nat.le_of_ble_eq_true rfl) rfl (fun w' hS => ?_)
            replace hS : St W No w' [blk b 100 (encM T), refT bt g c T, blk b10 40 (encA a), blk bc 55 (encCell ⟨0, 0, noFlow⟩)] := hS
            have key : ∀ (w : World) (K : Value → World → Prop), Errs w E W.heap.size allErrs → Handle w → (∀ w', Ext No w w' → K (.bool true) w') → CallC Tryd.prog 31 #[errV E 2, .int .i64 2] w K := fun w K h1 h2 hK => (coded1_same 2 (by decide) w h1 h2).mono fun v w' ⟨e, hx⟩ => e ▸ hK w' hx
            repeat' ((conv => whnf); first | refine RetC.mk ?_ | refine NzC.mk (by decide) ?_ | refine RngC.mk (by omega) (by omega) ?_ | refine IdxC.mk (by omega) (by omega) ?_ | refine hS.ld 2 rfl rfl ?_ | (refine key _ _ (hE.ext hS.ext fun _ h => h.elim) (hh.ext hS.ext) (fun w' hx' => ?_); replace hS := hS.no hx'; clear hx') | refine hS.la 3 rfl (l := encCell ⟨0, 0, noFlow⟩) rfl rfl ?_ | refine neCell (c := ⟨0, 0, noFlow⟩) (d := ⟨0, 0, noFlow⟩) ?_ | exact absurd rfl (by assumption) | refine brD (fun _ => ?_) (fun _ => ?_) | refine brND (fun _ => ?_) (fun _ => ?_) | refine brN (fun _ => ?_) (fun _ => ?_) | refine brI (fun _ => ?_) (fun _ => ?_))
            all_goals first | exact absurd rfl (by assumption) | (exfalso; omega) | exact CutE.mk ⟨[(9, _), (8, _), (6, _), (1, _)], ⟨rfl, rfl, rfl, rfl, trivial⟩, fin _ (hS.keep 2)⟩ | trace_state
          · obtain ⟨x, hxk⟩ : ∃ x, T.cells[a.slot.toNat]? = some x := ⟨_, List.getElem?_eq_getElem (by omega)⟩
            refine (tget_ok a.slot (hS.blk 0 rfl) (by omega) (by omega) hxk).mono ?_
            rintro v w' ⟨rfl, hx'⟩
            replace hS := hS.no hx'
            clear hx'
            (conv => whnf)
            refine hS.new (fun bc w' hbc hS => ?_)
            (conv => whnf)
            refine hS.st 3 rfl (Nat.le_of_ble_eq_true rfl) rfl (fun w' hS => ?_)
            replace hS : St W No w' [blk b 100 (encM T), refT bt g c T, blk b10 40 (encA a), blk bc 55 (encCell x)] := hS
            repeat' ((conv => whnf); first | refine RetC.mk ?_ | refine NzC.mk (by decide) ?_ | refine RngC.mk (by omega) (by omega) ?_ | refine IdxC.mk (by omega) (by omega) ?_ | refine hS.ld 2 rfl rfl ?_ | refine brD (fun _ => ?_) (fun _ => ?_) | refine brND (fun _ => ?_) (fun _ => ?_) | refine brN (fun _ => ?_) (fun _ => ?_) | refine brI (fun _ => ?_) (fun _ => ?_))
            · exfalso; omega
            · exfalso; omega
            (refine drawS tabOk mixed [] No [0, 1, 2, 3, 4, 5, 6, 7, 8, 9, 10, 11, 12, 13] (by kernel_rfl) ?_; rintro w1 rfl; replace hS := hS.drew)
            have hcx := refT_at (hS.get 1 rfl) hxk
            repeat' ((conv => whnf); first | refine RetC.mk ?_ | refine NzC.mk (by decide) ?_ | refine RngC.mk (by omega) (by omega) ?_ | refine IdxC.mk (by omega) (by omega) ?_ | refine hS.ldF 2 rfl rfl id ?_ | refine hS.laF 3 rfl (l := encCell x) rfl rfl id ?_ | refine ldFc (refT_l (hS.get 1 rfl)) id ?_ | refine laFc (l := encCell x) rfl (show CellsAt _ g (0 + a.slot.toNat * 10) (encCell x) by rw [Nat.zero_add]; exact hcx) id ?_ | refine neCell ?_ | refine brD (fun _ => ?_) (fun _ => ?_) | refine brND (fun _ => ?_) (fun _ => ?_) | refine brN (fun _ => ?_) (fun _ => ?_) | refine brI (fun _ => ?_) (fun _ => ?_))
            all_goals first | exact absurd rfl (by assumption) | (exfalso; omega) | exact CutE.mk ⟨[(9, _), (8, _), (6, _), (1, _)], ⟨rfl, rfl, rfl, rfl, trivial⟩, fin _ (hS.keep 2)⟩ | trace_state
      · clear hS hO hF hv hm
        rintro _ w ⟨T, rfl, hS, hO, hF⟩
        refine EvC.ev tabOk ?_
        (conv => whnf)
        refine RngC.mk (by omega) (by omega) ?_
        (conv => whnf)
        exact LoopE.mk ⟨_, [(9, .int .i64 ((i + 1 : Nat) : Int)), (8, _), (6, _), (1, _)], by omega, ⟨rfl, rfl, rfl, rfl, trivial⟩, ⟨i + 1, T, rfl, rfl, by omega, hS, hO, hF⟩⟩
    · (conv => whnf)
      (refine drawS tabOk mixed [] (No) [0, 2, 3, 4, 5, 1, 6, 7] (by kernel_rfl) ?_; rintro w1 rfl; replace hS := hS.drew)
      repeat' ((conv => whnf); first | refine RetC.mk ?_ | refine NzC.mk (by decide) ?_ | refine RngC.mk (by omega) (by omega) ?_ | refine IdxC.mk (by omega) (by omega) ?_ | refine ldFc (refT_l (hS.get 1 rfl)) id ?_ | refine brD (fun _ => ?_) (fun _ => ?_) | refine brND (fun _ => ?_) (fun _ => ?_) | refine brN (fun _ => ?_) (fun _ => ?_) | refine brI (fun _ => ?_) (fun _ => ?_))
      refine (tcells_ok (hS.blk 0 rfl) hm).mono ?_
      rintro v w' ⟨a2, c2, rfl, hx', hO2, hFr⟩
      replace hS := hS.madeL hx' hO2 hFr
      refine KeepC.mk hx' ?_
      (conv => whnf)
      refine (sameCells_same (ownL_slc (G := fun _ => True) codCell (hS.get 2 rfl) fun _ _ => trivial) (refT_slc (hS.get 1 rfl))).mono ?_
      rintro v w3 ⟨rfl, hx2⟩
      replace hS := hS.no hx2
      refine KeepC.mk (hx'.trans hx2) ?_
      repeat' ((conv => whnf); first | refine RetC.mk ?_ | refine NzC.mk (by decide) ?_ | refine RngC.mk (by omega) (by omega) ?_ | refine IdxC.mk (by omega) (by omega) ?_ | refine brD (fun _ => ?_) (fun _ => ?_) | refine brND (fun _ => ?_) (fun _ => ?_) | refine brN (fun _ => ?_) (fun _ => ?_) | refine brI (fun _ => ?_) (fun _ => ?_))
      exact ⟨rfl, hS.ext⟩
  · (conv => whnf)
    refine (tnew_bad nd _ ((hE.sub rfl).ext hS.ext fun _ h => h.elim) hnd).mono ?_
    rintro v w' ⟨rfl, hx'⟩
    replace hS := hS.no hx'
    clear hx'
    have key : ∀ (w : World) (K : Value → World → Prop), Errs w E W.heap.size allErrs → Handle w → (∀ w', Ext No w w' → K (.bool true) w') → CallC Tryd.prog 31 #[errV E 2, .int .i64 2] w K := fun w K h1 h2 hK => (coded1_same 2 (by decide) w h1 h2).mono fun v w' ⟨e, hx⟩ => e ▸ hK w' hx
    repeat' ((conv => whnf); first | refine RetC.mk ?_ | refine NzC.mk (by decide) ?_ | refine RngC.mk (by omega) (by omega) ?_ | refine IdxC.mk (by omega) (by omega) ?_ | (refine key _ _ (hE.ext hS.ext fun _ h => h.elim) (hh.ext hS.ext) (fun w' hx' => ?_); replace hS := hS.no hx'; clear hx') | refine brD (fun _ => ?_) (fun _ => ?_) | refine brND (fun _ => ?_) (fun _ => ?_) | refine brN (fun _ => ?_) (fun _ => ?_) | refine brI (fun _ => ?_) (fun _ => ?_))
    all_goals first | exact ⟨rfl, hS.ext⟩ | (exfalso; omega)

theorem tableActs_walk {E : Nat → Addr} (W : World) (args : List Value) (hE : Errs W E W.heap.size allErrs) (hh : Handle W) (ha : ArgsOk Tryd.prog W [3, 22] args) :
    CallC Tryd.prog 6 args.toArray W fun v w' => v = .bool true ∧ Ext No W w' := by
  obtain ⟨v0, args, rfl, h0, ha⟩ := ha.cons
  obtain ⟨v1, args, rfl, h1, ha⟩ := ha.cons
  obtain rfl := ha.nil
  obtain ⟨x0, rfl, _⟩ := arg_int Tryd.underlying3 h0
  obtain ⟨d, hd⟩ : ∃ d, 10 ≤ d := ⟨10, Nat.le_refl _⟩
  obtain ⟨a0, n0, c0, xs, rfl, hx, _⟩ := arg_slice (d := d) (sz := 10) Tryd.underlying22 (by kernel_rfl) (by decide) (dec_act hd) h1
  exact tableActs_ok W hE hh x0 a0 n0 c0 xs hx
end Go.Proofs.YteakdmngllfodaaDoor
