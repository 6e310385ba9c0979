/-
  Texts of this claim, joined: WorldOne.
-/
import Derived.Test.YtoaghhcjlfiflaaGreatDoorWorldOneG

namespace Go.Proofs.YtoaghhcjlfiflaaGreatDoor
open Go Ev
structure Good (m c v : Nat) (W : WorldS) : Prop where
  ok : WOk m W
  wg : WG W
  low : LowW c W
  ev : W.events.length ≤ v
theorem Good.moved {m c v : Nat} {W V : WorldS} (h : Good m c v W) (k : Moved W V) (hm : m ≤ 40000000) (hv : v < 1000) : Good (m + 34) (c + 1) (v + 1) V := by
  have he := h.ev
  obtain ⟨g1, g2⟩ := k.wg h.ok h.wg hm (by omega)
  exact ⟨k.ok h.ok hm, g1, k.low h.ok h.wg h.low, by omega⟩
theorem Good.le {m c v m' c' v' : Nat} {W : WorldS} (h : Good m c v W) (h1 : m ≤ m') (h2 : c ≤ c') (h3 : v ≤ v') : Good m' c' v' W := ⟨h.ok.mono h1, h.wg, h.low.le h2, by have := h.ev; omega⟩
theorem Good.drop {m c v : Nat} {W : WorldS} (h : Good m c v W) : Good m c v (W.drop 0).2 := by
  obtain ⟨g1, g2⟩ := h.wg.drop 0
  refine ⟨h.ok.drop 0, g1, ?_, by rw [g2]; exact h.ev⟩
  unfold WorldS.drop
  split
  · exact h.low
  · exact h.low.off 0
theorem drop_len (W : WorldS) : (W.drop 0).2.fly.length = W.fly.length - 1 := by
  unfold WorldS.drop
  by_cases h : W.at_ 0 = 0
  · rw [if_neg (fun g => g h)]
    show (W.fly.eraseIdx 0).length = _
    rw [List.length_eraseIdx]
    unfold WorldS.at_ at h
    split
    · rfl
    · omega
  · rw [if_pos h]
    unfold WorldS.at_ at h
    by_cases h2 : (0 : Int) < 0 ∨ (0 : Int) ≥ W.fly.length
    · show W.fly.length = _
      omega
    · rw [if_neg h2] at h
      exact absurd rfl h
def WorldS.ups (W : WorldS) : Nat → WorldS
  | 0 => W
  | k + 1 => (((W.ups k).down k).2.up k).2
theorem ups_ok {m : Nat} {W : WorldS} (h : WOk m W) (hm : m ≤ 30000000) : ∀ k : Nat, k ≤ 2 → WOk (m + 68 * k) (W.ups k)
  | 0, _ => h
  | k + 1, hk => by
    have h1 := ups_ok h hm k (by omega)
    have h2 := (Moved.down (W.ups k) k).ok h1 (by omega)
    exact ((Moved.up ((W.ups k).down k).2 k).ok h2 (by omega)).mono (by omega)
theorem ups_err {m c v : Nat} {W : WorldS} (h : Good m c v W) (hm : m ≤ 30000000) (hc : c ≤ 400) (hv : v < 900) (hf : W.fly = []) {k : Nat} (hk : k < 2) : (((W.ups k).down k).2.up k).1 = 0 := by
  have he := h.ev
  obtain ⟨a, b, _⟩ := anew_ok (f := 0) (.inl rfl) h.ok h.wg (h.low.le hc) hm (by omega) hf
  match k, hk with
  | 0, _ => exact a
  | 1, _ => exact b
def InRd (f : Int) (i : Nat) (k : Nat) (W : WorldS) : Prop := (k = 0 ∧ Rd f i W) ∨ (k = 1 ∧ Mid f i W) ∨ (k = 2 ∧ Rd f (i + 1) W)
theorem InRd.half {f : Int} {i k : Nat} {W : WorldS} (hf : f = 0 ∨ f = 1) (h : InRd f i k W) (hk : k < 2) (hi : i < 24) : (W.tick ((f + k).tmod 2)).1 = 0 ∧ InRd f i (k + 1) ((W.tick ((f + k).tmod 2)).2.dl 8) := by
  rcases h with ⟨rfl, h⟩ | ⟨rfl, h⟩ | ⟨rfl, _⟩
  · have e : (f + ((0 : Nat) : Int)).tmod 2 = f := by rcases hf with rfl | rfl <;> rfl
    rw [e]
    obtain ⟨a, b⟩ := h.half hf hi
    exact ⟨a, .inr (.inl ⟨rfl, b⟩)⟩
  · have e : (f + ((1 : Nat) : Int)).tmod 2 = 1 - f := by rcases hf with rfl | rfl <;> rfl
    rw [e]
    obtain ⟨a, b⟩ := h.half hf hi
    exact ⟨a, .inr (.inr ⟨rfl, b⟩)⟩
  · omega
theorem dl_ok {m : Nat} {W : WorldS} (h : WOk m W) : ∀ k : Nat, WOk m (W.dl k)
  | 0 => h
  | k + 1 => (dl_ok h k).deliver 0
section
variable {w w' : World} {X : WorldA} {W : WorldS}
theorem two_nodes {w0 : World} {S : Nat → Prop} {N M : NodeS} (h : St w0 S w (worldH X W ++ [])) (h1 : W.a.node = some N) (h2 : W.b.node = some M) : St w0 S w (nodeB X.a.A N W.a.byt ++ nodeB X.b.A M W.b.byt) := by
  have e1 : nodeB X.a.A N W.a.byt = sideH X.a W.a := by unfold sideH; rw [h1]
  have e2 : nodeB X.b.A M W.b.byt = sideH X.b W.b := by unfold sideH; rw [h2]
  rw [e1, e2]
  rw [List.append_nil] at h
  exact h.weaken (List.sublist_append_right _ _)
end
set_option maxRecDepth 100000 in
theorem worldOne_ok {E : Nat → Addr} (W : World) (hE : Errs W E W.heap.size insErrs) (a0 : Option Addr) (n0 c0 : Nat) (rules : List RuleS) (hr : Slc W 5 encRule (fun _ => True) a0 n0 rules) (a1 : Option Addr) (n1 c1 : Nat) (ys : List StepW) (hy : Slc W 10 encSW (StepW.Ok W) a1 n1 ys) (f : Int) :
    CallC Tryz.prog 3 #[.slice a0 n0 c0, .slice a1 n1 c1, .int .i64 f] W fun v w' => v = .bool true ∧ Ext No W w' := by
  skip
  have hE2 : Errs W E W.heap.size insErrs := hE
  have hcd := fault_code rules
  obtain rfl := hr.len
  have hl1 := hy.len
  have hm1 := hy.max
  have hm0 := hr.max
  refine fn_intro tabOk Tryz.func3 (by kernel_rfl) rfl Tryz.ntmps3 (Nat.le_of_ble_eq_true rfl) ?_
  (conv => whnf)
  refine (born_ok' hE2 (Nat.le_refl _)).mono ?_
  rintro v w1 ⟨rfl, hx⟩
  (conv => whnf)
  refine brD (fun h1 => ?_) (fun h1 => ?_)
  · repeat' ((conv => whnf); first | refine RetC.mk ?_ | refine NzC.mk (by decide) ?_ | refine RngC.mk (by omega) (by omega) ?_ | refine IdxC.mk (by omega) (by omega) ?_ | refine brD (fun _ => ?_) (fun _ => ?_) | refine brND (fun _ => ?_) (fun _ => ?_) | refine brN (fun _ => ?_) (fun _ => ?_) | refine brI (fun _ => ?_) (fun _ => ?_))
    exact ⟨rfl, hx⟩
  (conv => whnf)
  refine (stepsFit_ok 200 (hy.no hx)).mono ?_
  rintro v w2 ⟨b, rfl, hfit, hx2⟩
  replace hx := hx.trans hx2
  clear hx2
  cases b
  · repeat' ((conv => whnf); first | refine RetC.mk ?_ | refine NzC.mk (by decide) ?_ | refine RngC.mk (by omega) (by omega) ?_ | refine IdxC.mk (by omega) (by omega) ?_ | refine brD (fun _ => ?_) (fun _ => ?_) | refine brND (fun _ => ?_) (fun _ => ?_) | refine brN (fun _ => ?_) (fun _ => ?_) | refine brI (fun _ => ?_) (fun _ => ?_))
    exact ⟨rfl, hx⟩
  obtain ⟨hfit, hn1⟩ := hfit rfl
  (conv => whnf)
  refine brD (fun h4 => ?_) (fun h4 => ?_)
  · repeat' ((conv => whnf); first | refine RetC.mk ?_ | refine NzC.mk (by decide) ?_ | refine RngC.mk (by omega) (by omega) ?_ | refine IdxC.mk (by omega) (by omega) ?_ | refine brD (fun _ => ?_) (fun _ => ?_) | refine brND (fun _ => ?_) (fun _ => ?_) | refine brN (fun _ => ?_) (fun _ => ?_) | refine brI (fun _ => ?_) (fun _ => ?_))
    exact ⟨rfl, hx⟩
  (conv => whnf)
  refine brD (fun h5 => ?_) (fun h5 => ?_)
  · repeat' ((conv => whnf); first | refine RetC.mk ?_ | refine NzC.mk (by decide) ?_ | refine RngC.mk (by omega) (by omega) ?_ | refine IdxC.mk (by omega) (by omega) ?_ | refine brD (fun _ => ?_) (fun _ => ?_) | refine brND (fun _ => ?_) (fun _ => ?_) | refine brN (fun _ => ?_) (fun _ => ?_) | refine brI (fun _ => ?_) (fun _ => ?_))
    exact ⟨rfl, hx⟩
  (conv => whnf)
  refine (ownRules_ok (hr.no hx) (by omega)).mono ?_
  rintro v w3 ⟨a3, c3, rfl, hx3, ho3, _⟩
  replace hx := hx.trans hx3
  have hr3 := ownL_slc (G := fun _ => True) codRule ho3 (fun _ _ => trivial)
  by_cases h0 : (faultL rules).1 ≠ 0
  · (conv => whnf)
    refine (wnew_bad hr3 (hE2.ext hx fun _ h => h.elim) h0).mono ?_
    rintro v w4 ⟨⟨e, rfl, hF⟩, hx4⟩
    clear hx3 ho3 hr3
    replace hx := hx.trans hx4
    rcases hF with ⟨_, h⟩ | ⟨_, _, f, h, _⟩
    · obtain ⟨k, hk⟩ : ∃ k, (faultL rules).1 = k + 1 := ⟨(faultL rules).1 - 1, by omega⟩
      rw [hk] at h
      subst h
      repeat' ((conv => whnf); first | refine RetC.mk ?_ | refine NzC.mk (by decide) ?_ | refine RngC.mk (by omega) (by omega) ?_ | refine IdxC.mk (by omega) (by omega) ?_ | refine brD (fun _ => ?_) (fun _ => ?_) | refine brND (fun _ => ?_) (fun _ => ?_) | refine brN (fun _ => ?_) (fun _ => ?_) | refine brI (fun _ => ?_) (fun _ => ?_))
      all_goals exact ⟨rfl, hx⟩
    · subst h
      repeat' ((conv => whnf); first | refine RetC.mk ?_ | refine NzC.mk (by decide) ?_ | refine RngC.mk (by omega) (by omega) ?_ | refine IdxC.mk (by omega) (by omega) ?_ | refine brD (fun _ => ?_) (fun _ => ?_) | refine brND (fun _ => ?_) (fun _ => ?_) | refine brN (fun _ => ?_) (fun _ => ?_) | refine brI (fun _ => ?_) (fun _ => ?_))
      all_goals exact ⟨rfl, hx⟩
  have h0 : (faultL rules).1 = 0 := Classical.byContradiction h0
  (conv => whnf)
  refine (wnew_ok hr3 (by omega) (hE2.ext hx fun _ h => h.elim) hx.size h0).mono ?_
  rintro v w4 ⟨A, rfl, hx4, hst4, hf4⟩
  have hS : St W No w4 (worldH A (.born rules) ++ []) := (((St.start W No).no hx).madeAll hx4 hst4.has hf4).perm (List.Perm.of_eq (by simp))
  have hG : Good 0 1 0 (.born rules) := ⟨hst4.ok, .born (fault_good.1 h0), .born rules, Nat.le_refl _⟩
  clear hst4 hf4 hx3 ho3 hr3 hx hx4
  generalize WorldS.born rules = V at hS hG
  (conv => whnf)
  have hf : f = 0 ∨ f = 1 := by omega
  refine loopR tabOk (fun σ w' r => ∃ (k : Nat) (A' : WorldA) (V' : WorldS), σ = [(10, .int .i64 k), (8, .pointer (some ⟨A.w, 0, none⟩)), (2, .int .i64 f), (1, .slice a1 n1 c1)] ∧ r = n1 - k ∧ k ≤ n1 ∧ A'.w = A.w ∧ St W No w' (worldH A' V' ++ []) ∧ Good (34 * k) (1 + k) k V')
    (σ' := [(10, .int .i64 ((0 : Nat) : Int)), (8, .pointer (some ⟨A.w, 0, none⟩)), (2, .int .i64 f), (1, .slice a1 n1 c1)]) (n := n1) ⟨rfl, rfl, rfl, rfl, trivial⟩ ⟨0, A, V, rfl, rfl, Nat.zero_le _, rfl, hS, hG⟩ ?_
  clear hS hG
  rintro _ w1 r ⟨k, A', V', rfl, rfl, hk, hA, hS, hG⟩
  rw [← hA]
  (conv => whnf)
  refine brD (fun h3 => ?_) (fun h3 => ?_)
  · have hk2 : k < n1 := by omega
    obtain ⟨b0, o0, x, hxk, hxok, rfl, hb0, hc⟩ := hy.at hk2
    (conv => whnf)
    refine IdxC.mk (by omega) (by omega) ?_
    (conv => whnf)
    refine hS.lar (l := encSW x) rfl hc id ?_
    (conv => whnf)
    refine (wact_ok x hS hG.ok (by omega) hxok (hfit x (List.mem_of_getElem? hxk)) hE2).mono ?_
    rintro v w2 ⟨A2, V2, hA2, hmv, hS2⟩
    have hG2 := (hG.moved hmv (by omega) (by omega)).le (m' := 34 * (k + 1)) (c' := 1 + (k + 1)) (v' := k + 1) (by omega) (by omega) (by omega)
    (conv => whnf)
    refine RngC.mk (by omega) (by omega) ?_
    (conv => whnf)
    refine LoopE.mk ⟨_, [(10, .int .i64 ((k + 1 : Nat) : Int)), (8, _), (2, _), (1, _)], ?_, ⟨rfl, rfl, rfl, rfl, trivial⟩, ⟨k + 1, A2, V2, rfl, rfl, by omega, hA2, hS2, hG2⟩⟩
    omega
  obtain rfl : k = n1 := by omega
  clear h3 hk
  replace hG := hG.le (m' := 6800) (c' := 201) (v' := 200) (by omega) (by omega) (by omega)
  generalize A' = A at hS
  (conv => whnf)
  refine loopR tabOk (fun σ w' r => ∃ (k : Nat) (A' : WorldA) (V' : WorldS), σ = [(11, .int .i64 k), (8, .pointer (some ⟨A.w, 0, none⟩)), (2, .int .i64 f)] ∧ r = 200 - k ∧ k ≤ 200 ∧ A'.w = A.w ∧ St W No w' (worldH A' V' ++ []) ∧ Good 6800 201 200 V' ∧ V'.fly.length ≤ 200 - k)
    (σ' := [(11, .int .i64 ((0 : Nat) : Int)), (8, .pointer (some ⟨A.w, 0, none⟩)), (2, .int .i64 f)]) (n := 200) ⟨rfl, rfl, rfl, trivial⟩ ⟨0, A, V', rfl, rfl, Nat.zero_le _, rfl, hS, hG, hG.ok.fly⟩ ?_
  clear hS hG
  rintro _ w1 r ⟨k, A', V', rfl, rfl, hk, hA, hS, hG, hfl⟩
  rw [← hA]
  (conv => whnf)
  refine brD (fun h3 => ?_) (fun h3 => ?_)
  · (conv => whnf)
    refine (wdrop_ok 0 (St.stands (P := []) hS hE2 hG.ok)).mono ?_
    rintro v w2 ⟨rfl, A2, hA2, ht⟩
    replace hS := St.callAt (A := []) (B := []) hS ht
    (conv => whnf)
    refine RngC.mk (by omega) (by omega) ?_
    (conv => whnf)
    refine LoopE.mk ⟨_, [(11, .int .i64 ((k + 1 : Nat) : Int)), (8, _), (2, _)], ?_, ⟨rfl, rfl, rfl, trivial⟩, ⟨k + 1, A2, (V'.drop 0).2, rfl, rfl, by omega, hA2, hS, hG.drop, by rw [drop_len]; omega⟩⟩
    omega
  replace hfl : V'.fly = [] := List.length_eq_zero_iff.1 (by omega)
  clear h3 hk hA
  generalize A' = A at hS
  generalize V' = V at hS hG hfl
  (conv => whnf)
  have hups : ∀ k : Nat, k < 2 → (((V.ups k).down k).2.up k).1 = 0 := fun k hk => ups_err hG (by decide) (by decide) (by decide) hfl hk
  have huok := ups_ok hG.ok (by decide)
  have hrd : Rd f 0 V.anew := (anew_ok hf hG.ok hG.wg (hG.low.le (by decide)) (by decide) (by have := hG.ev; omega) hfl).2.2
  refine loopR tabOk (fun σ w' r => ∃ (k : Nat) (A' : WorldA), σ = [(12, .int .i64 k), (8, .pointer (some ⟨A.w, 0, none⟩)), (2, .int .i64 f)] ∧ r = 2 - k ∧ k ≤ 2 ∧ A'.w = A.w ∧ St W No w' (worldH A' (V.ups k) ++ []))
    (σ' := [(12, .int .i64 ((0 : Nat) : Int)), (8, .pointer (some ⟨A.w, 0, none⟩)), (2, .int .i64 f)]) (n := 2) ⟨rfl, rfl, rfl, trivial⟩ ⟨0, A, rfl, rfl, Nat.zero_le _, rfl, hS⟩ ?_
  clear hS
  rintro _ w1 r ⟨k, A', rfl, rfl, hk, hA, hS⟩
  rw [← hA]
  have hO := huok k hk
  (conv => whnf)
  refine brD (fun h3 => ?_) (fun h3 => ?_)
  · have he := hups k (by omega)
    (conv => whnf)
    refine (wdown_ok (k : Int) (St.stands (P := []) hS hE2 hO)).mono ?_
    rintro v w2 ⟨rfl, ht⟩
    replace hS := St.callAt (A := []) (B := []) hS ht
    clear ht
    (conv => whnf)
    refine (wcome_ok (k : Int) (St.stands (P := []) hS hE2 (hO.down k))).mono ?_
    rintro v w3 ⟨rfl, A2, hA2, ht⟩
    replace hS := St.callAt (A := []) (B := []) hS ht
    rw [he]
    (conv => whnf)
    refine RngC.mk (by omega) (by omega) ?_
    (conv => whnf)
    refine LoopE.mk ⟨_, [(12, .int .i64 ((k + 1 : Nat) : Int)), (8, _), (2, _)], ?_, ⟨rfl, rfl, rfl, trivial⟩, ⟨k + 1, A2, rfl, rfl, by omega, hA2, hS⟩⟩
    omega
  obtain rfl : k = 2 := by omega
  replace hO := hO.mono (k := 7000) (by decide)
  replace hS : St W No w1 (worldH A' V.anew ++ []) := hS
  replace hO : WOk 7000 V.anew := hO
  clear h3 hk hA huok hups hG hfl
  generalize A' = A at hS
  generalize V.anew = V at hS hO hrd
  (conv => whnf)
  refine loopR tabOk (fun σ w' r => ∃ (k : Nat) (A' : WorldA) (V' : WorldS), σ = [(13, .int .i64 k), (8, .pointer (some ⟨A.w, 0, none⟩)), (2, .int .i64 f)] ∧ r = 24 - k ∧ k ≤ 24 ∧ A'.w = A.w ∧ St W No w' (worldH A' V' ++ []) ∧ WOk (7000 + 68 * k) V' ∧ Rd f k V')
    (σ' := [(13, .int .i64 ((0 : Nat) : Int)), (8, .pointer (some ⟨A.w, 0, none⟩)), (2, .int .i64 f)]) (n := 24) ⟨rfl, rfl, rfl, trivial⟩ ⟨0, A, V, rfl, rfl, Nat.zero_le _, rfl, hS, hO, hrd⟩ ?_
  clear hS hO hrd
  rintro _ w1 r ⟨i, A', V', rfl, rfl, hi, hA, hS, hO, hrd⟩
  rw [← hA]
  (conv => whnf)
  refine brD (fun h3 => ?_) (fun h3 => ?_)
  · (conv => whnf)
    refine loopR tabOk (fun σ w' r => ∃ (k : Nat) (A2 : WorldA) (V2 : WorldS), σ = [(14, .int .i64 k), (13, .int .i64 i), (8, .pointer (some ⟨A'.w, 0, none⟩)), (2, .int .i64 f)] ∧ r = 2 - k ∧ k ≤ 2 ∧ A2.w = A'.w ∧ St W No w' (worldH A2 V2 ++ []) ∧ WOk (7000 + 68 * i + 34 * k) V2 ∧ InRd f i k V2)
      (σ' := [(14, .int .i64 ((0 : Nat) : Int)), (13, .int .i64 i), (8, .pointer (some ⟨A'.w, 0, none⟩)), (2, .int .i64 f)]) (n := 2) ⟨rfl, rfl, rfl, rfl, trivial⟩ ⟨0, A', V', rfl, rfl, Nat.zero_le _, rfl, hS, hO, .inl ⟨rfl, hrd⟩⟩ ?_
    clear hS hO hrd
    rintro _ w1 r ⟨k, A2, V2, rfl, rfl, hk, hA2, hS, hO, hrd⟩
    rw [← hA2]
    (conv => whnf)
    refine brD (fun h4 => ?_) (fun h4 => ?_)
    · obtain ⟨he, hnx⟩ := hrd.half hf (by omega) (by omega)
      (conv => whnf)
      refine RngC.mk (by omega) (by omega) ?_
      (conv => whnf)
      refine NzC.mk (by decide) ?_
      (conv => whnf)
      refine (wtick_ok (hm := by omega) ((f + (k : Int)).tmod 2) (St.stands (P := []) hS hE2 hO)).mono ?_
      rintro v w2 ⟨rfl, A3, hA3, ht⟩
      replace hS := St.callAt (A := []) (B := []) hS ht
      replace hO := hO.tick (by omega) ((f + (k : Int)).tmod 2)
      clear ht hrd
      rw [he]
      generalize (V2.tick ((f + (k : Int)).tmod 2)).2 = U at hS hO hnx
      rw [← hA3]
      (conv => whnf)
      refine loopR tabOk (fun σ w' r => ∃ (j : Nat) (A4 : WorldA), σ = [(15, .int .i64 j), (14, .int .i64 k), (13, .int .i64 i), (8, .pointer (some ⟨A3.w, 0, none⟩)), (2, .int .i64 f)] ∧ r = 8 - j ∧ j ≤ 8 ∧ A4.w = A3.w ∧ St W No w' (worldH A4 (U.dl j) ++ []))
        (σ' := [(15, .int .i64 ((0 : Nat) : Int)), (14, .int .i64 k), (13, .int .i64 i), (8, .pointer (some ⟨A3.w, 0, none⟩)), (2, .int .i64 f)]) (n := 8) ⟨rfl, rfl, rfl, rfl, rfl, trivial⟩ ⟨0, A3, rfl, rfl, Nat.zero_le _, rfl, hS⟩ ?_
      clear hS
      rintro _ w1 r ⟨j, A4, rfl, rfl, hj, hA4, hS⟩
      have hO2 := dl_ok hO j
      rw [← hA4]
      (conv => whnf)
      refine brD (fun h5 => ?_) (fun h5 => ?_)
      · (conv => whnf)
        refine (wdeliver_ok 0 (St.stands (P := []) hS hE2 hO2)).mono ?_
        rintro v w2 ⟨rfl, A5, hA5, ht⟩
        replace hS := St.callAt (A := []) (B := []) hS ht
        (conv => whnf)
        refine RngC.mk (by omega) (by omega) ?_
        (conv => whnf)
        refine LoopE.mk ⟨_, [(15, .int .i64 ((j + 1 : Nat) : Int)), (14, _), (13, _), (8, _), (2, _)], ?_, ⟨rfl, rfl, rfl, rfl, rfl, trivial⟩, ⟨j + 1, A5, rfl, rfl, by omega, hA5, hS⟩⟩
        omega
      obtain rfl : j = 8 := by omega
      (conv => whnf)
      refine RngC.mk (by omega) (by omega) ?_
      (conv => whnf)
      refine LoopE.mk ⟨_, [(14, .int .i64 ((k + 1 : Nat) : Int)), (13, _), (8, _), (2, _)], ?_, ⟨rfl, rfl, rfl, rfl, trivial⟩, ⟨k + 1, A4, U.dl 8, rfl, rfl, by omega, rfl, hS, hO2.mono (by omega), hnx⟩⟩
      omega
    obtain rfl : k = 2 := by omega
    have hrd2 : Rd f (i + 1) V2 := by
      rcases hrd with ⟨h, _⟩ | ⟨h, _⟩ | ⟨_, h⟩
      · omega
      · omega
      · exact h
    (conv => whnf)
    refine RngC.mk (by omega) (by omega) ?_
    (conv => whnf)
    refine LoopE.mk ⟨_, [(13, .int .i64 ((i + 1 : Nat) : Int)), (8, _), (2, _)], ?_, ⟨rfl, rfl, rfl, trivial⟩, ⟨i + 1, A2, V2, rfl, rfl, by omega, rfl, hS, hO.mono (by omega), hrd2⟩⟩
    omega
  obtain rfl : i = 24 := by omega
  obtain ⟨N, M, hN, hM, hone⟩ := hrd.one hf
  generalize A' = A at hS
  clear h3 hi hA hrd
  (conv => whnf)
  refine (wnode_ok 0 (St.stands (P := []) hS hE2 hO)).mono ?_
  rintro v w2 ⟨rfl, hx2⟩
  replace hS := hS.no hx2
  rw [upErr_some (.inl rfl) (show (V'.side 0).node = some N from hN), if_pos (rfl : (0 : Nat) = 0), show A.side 0 = A.a from rfl]
  (conv => whnf)
  refine (wnode_ok 1 (St.stands (P := []) hS hE2 hO)).mono ?_
  rintro v w3 ⟨rfl, hx3⟩
  replace hS := hS.no hx3
  rw [upErr_some (.inr rfl) (show (V'.side 1).node = some M from hM), if_pos (rfl : (0 : Nat) = 0), show A.side 1 = A.b from rfl]
  clear hx2 hx3
  (conv => whnf)
  (refine drawS tabOk mixed [] (No) [0, 1, 2, 3, 4, 5, 6, 7, 8, 9, 10, 11, 12, 13, 14, 15, 16, 17, 18, 20, 21, 22, 23, 19, 24, 25, 26] (by kernel_rfl) ?_; rintro w1 rfl; replace hS := hS.drew)
  have hK := hS.ref No
  have hS2 := two_nodes hS hN hM
  (conv => whnf)
  refine hS2.ldF 0 rfl rfl id ?_
  (conv => whnf)
  refine hS2.ldF 8 rfl rfl id ?_
  (conv => whnf)
  refine (role_active (hS2.blk 1 rfl)).mono ?_
  rintro v w4 ⟨rfl, rfl⟩
  refine KeepC.mk hK ?_
  (conv => whnf)
  refine (role_active (hS2.blk 9 rfl)).mono ?_
  rintro v w4 ⟨rfl, rfl⟩
  refine KeepC.mk hK ?_
  rcases hone with ⟨q1, q2, q3, q4⟩ | ⟨q1, q2, q3, q4⟩
  · rw [q1, q2]
    (conv => whnf)
    refine (wswitch_ok hS.has.left).mono ?_
    rintro v w5 ⟨rfl, hx5⟩
    replace hS := hS.no hx5
    replace hS2 := hS2.no hx5
    rw [q3, q4]
    (conv => whnf)
    refine hS2.ld 0 rfl rfl ?_
    (conv => whnf)
    refine (role_active (hS2.blk 1 rfl)).mono ?_
    rintro v w6 ⟨rfl, rfl⟩
    rw [q1]
    (conv => whnf)
    refine hS2.ld 0 rfl rfl ?_
    (conv => whnf)
    refine (role_epoch (hS2.blk 1 rfl)).mono ?_
    rintro v w6 ⟨rfl, rfl⟩
    repeat' ((conv => whnf); first | refine RetC.mk ?_ | refine NzC.mk (by decide) ?_ | refine RngC.mk (by omega) (by omega) ?_ | refine IdxC.mk (by omega) (by omega) ?_ | refine brD (fun _ => ?_) (fun _ => ?_) | refine brND (fun _ => ?_) (fun _ => ?_) | refine brN (fun _ => ?_) (fun _ => ?_) | refine brI (fun _ => ?_) (fun _ => ?_))
    all_goals first | exact ⟨rfl, hS.ext⟩ | exact ⟨by simp, hS.ext⟩ | trace_state
  · rw [q1, q2]
    (conv => whnf)
    refine (wswitch_ok hS.has.left).mono ?_
    rintro v w5 ⟨rfl, hx5⟩
    replace hS := hS.no hx5
    replace hS2 := hS2.no hx5
    rw [q3, q4]
    (conv => whnf)
    refine hS2.ld 0 rfl rfl ?_
    (conv => whnf)
    refine (role_active (hS2.blk 1 rfl)).mono ?_
    rintro v w6 ⟨rfl, rfl⟩
    rw [q1]
    (conv => whnf)
    refine hS2.ld 8 rfl rfl ?_
    (conv => whnf)
    refine (role_epoch (hS2.blk 9 rfl)).mono ?_
    rintro v w6 ⟨rfl, rfl⟩
    repeat' ((conv => whnf); first | refine RetC.mk ?_ | refine NzC.mk (by decide) ?_ | refine RngC.mk (by omega) (by omega) ?_ | refine IdxC.mk (by omega) (by omega) ?_ | refine brD (fun _ => ?_) (fun _ => ?_) | refine brND (fun _ => ?_) (fun _ => ?_) | refine brN (fun _ => ?_) (fun _ => ?_) | refine brI (fun _ => ?_) (fun _ => ?_))
    all_goals first | exact ⟨rfl, hS.ext⟩ | exact ⟨by simp, hS.ext⟩ | trace_state
theorem worldOne_walk {E : Nat → Addr} (W : World) (args : List Value) (hE : Errs W E W.heap.size insErrs) (ha : ArgsOk Tryz.prog W [22, 23, 3] args) :
    CallC Tryz.prog 3 args.toArray W fun v w' => v = .bool true ∧ Ext No W w' := by
  obtain ⟨v0, args, rfl, h0, ha⟩ := ha.cons
  obtain ⟨v1, args, rfl, h1, ha⟩ := ha.cons
  obtain ⟨v2, args, rfl, h2, ha⟩ := ha.cons
  obtain rfl := ha.nil
  obtain ⟨a0, n0, c0, xs, rfl, hx, _⟩ := arg_slice (d := 12) (sz := 5) Tryz.underlying22 (by kernel_rfl) (by decide) (dec_ruleW (by decide)) h0
  obtain ⟨a1, n1, c1, ys, rfl, hy, _⟩ := arg_slice (d := 12) (sz := 10) Tryz.underlying23 (by kernel_rfl) (by decide) (dec_step (c := 10) (d := 11) (Nat.le_refl _) rfl rfl) h1
  obtain ⟨n, rfl, _⟩ := arg_int Tryz.underlying3 h2
  exact worldOne_ok W hE a0 n0 c0 xs hx a1 n1 c1 ys (hy.imp fun _ h => h) n
end Go.Proofs.YtoaghhcjlfiflaaGreatDoor
