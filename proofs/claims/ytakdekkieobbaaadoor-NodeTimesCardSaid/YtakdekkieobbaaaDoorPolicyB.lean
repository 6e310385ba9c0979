
/-
  The reference's rules; own memory of rules; slices.Concat of two.
-/
import Derived.Test.YtakdekkieobbaaaDoorPolicy
import Derived.Test.YtakdekkieobbaaaDoorEvP
namespace Go.Proofs.YtakdekkieobbaaaDoor
open Go Ev

def encF (c : Nat) (a : Int) : List Value := [.int .i64 (c : Int), .int .i64 a]
section
variable {w : World} {G G' : RuleS → Prop} {a b : Option Addr} {n m c d : Nat} {xs ys : List RuleS}
theorem bare_ok (k : Nat) (w : World) : CallC Tryd.prog 18 #[.int .i64 (k : Int)] w fun v w' => v = .agg (encF k (-1)).toArray ∧ Ext No w w' := by
  refine fn_intro tabOk Tryd.func18 (by kernel_rfl) rfl Tryd.ntmps18 (Nat.le_of_ble_eq_true rfl) ?_
  have hS := St.start w No
  repeat' ((conv => whnf); first | refine RetC.mk ?_ | refine NzC.mk (by decide) ?_ | refine RngC.mk (by omega) (by omega) ?_ | refine IdxC.mk (by omega) (by omega) ?_ | refine hS.new (fun b w' hb hS => ?_) | refine hS.st 0 rfl (Nat.le_of_ble_eq_true rfl) rfl (fun w' hS => ?_) | refine hS.laX 0 rfl rfl ?_ | refine brD (fun _ => ?_) (fun _ => ?_) | refine brND (fun _ => ?_) (fun _ => ?_) | refine brN (fun _ => ?_) (fun _ => ?_) | refine brI (fun _ => ?_) (fun _ => ?_))
  exact ⟨rfl, hS.ext⟩
theorem fine_ok (w : World) : CallC Tryd.prog 42 #[] w fun v w' => v = .agg (encF 0 (-1)).toArray ∧ Ext No w w' := by
  refine fn_intro tabOk Tryd.func42 (by kernel_rfl) rfl Tryd.ntmps42 (Nat.le_of_ble_eq_true rfl) ?_
  have hS := St.start w No
  repeat' ((conv => whnf); first | refine RetC.mk ?_ | refine NzC.mk (by decide) ?_ | refine RngC.mk (by omega) (by omega) ?_ | refine IdxC.mk (by omega) (by omega) ?_ | refine hS.new (fun b w' hb hS => ?_) | refine hS.st 0 rfl (Nat.le_of_ble_eq_true rfl) rfl (fun w' hS => ?_) | refine hS.laX 0 rfl rfl ?_ | refine brD (fun _ => ?_) (fun _ => ?_) | refine brND (fun _ => ?_) (fun _ => ?_) | refine brN (fun _ => ?_) (fun _ => ?_) | refine brI (fun _ => ?_) (fun _ => ?_))
  exact ⟨rfl, hS.ext⟩
theorem rulesFault_ok (hx : Slc w 5 encRule G a n xs) : CallC Tryd.prog 16 #[.slice a n c] w fun v w' => v = .agg (encF (faultL xs).1 (faultL xs).2).toArray ∧ Ext No w w' := by
  have hm := hx.max
  have hl := hx.len
  have hge := badI_ge xs 0
  unfold faultL
  refine fn_intro tabOk Tryd.func16 (by kernel_rfl) rfl Tryd.ntmps16 (Nat.le_of_ble_eq_true rfl) ?_
  have hS := St.start w No
  (conv => whnf)
  refine hS.new (fun bf w' hbf hS => ?_)
  (conv => whnf)
  refine brD (fun h1 => ?_) (fun h1 => ?_)
  · rw [if_pos (by omega)]
    repeat' ((conv => whnf); first | refine RetC.mk ?_ | refine NzC.mk (by decide) ?_ | refine RngC.mk (by omega) (by omega) ?_ | refine IdxC.mk (by omega) (by omega) ?_ | (refine (bare_ok 2 _).mono ?_; rintro v w' ⟨rfl, hx'⟩; replace hS := hS.no hx'; clear hx') | refine hS.st 0 rfl (Nat.le_of_ble_eq_true rfl) rfl (fun w' hS => ?_) | refine hS.laX 0 rfl rfl ?_ | refine brD (fun _ => ?_) (fun _ => ?_) | refine brND (fun _ => ?_) (fun _ => ?_) | refine brN (fun _ => ?_) (fun _ => ?_) | refine brI (fun _ => ?_) (fun _ => ?_))
    exact ⟨rfl, hS.ext⟩
  rw [if_neg (by omega)]
  (conv => whnf)
  refine loopR tabOk (fun σ w' q => ∃ k : Nat, σ = [(3, .int .i64 (k : Int)), (2, .pointer (some ⟨bf, 0, none⟩)), (0, .slice a n c)] ∧ q = n - k ∧ k ≤ n ∧ St w No w' [blk bf 41 [.int .i64 0, .int .i64 0]] ∧ badI xs 0 = badI (xs.drop k) k)
    (σ' := [(3, .int .i64 ((0 : Nat) : Int)), (2, .pointer (some ⟨bf, 0, none⟩)), (0, .slice a n c)]) (n := n) ⟨rfl, rfl, rfl, trivial⟩ ⟨0, rfl, rfl, Nat.zero_le _, hS, by simp⟩ ?_
  clear hS
  rintro _ w1 q ⟨k, rfl, rfl, hk, hS, hi⟩
  (conv => whnf)
  refine brD (fun h3 => ?_) (fun h3 => ?_)
  · obtain ⟨b0, o0, x, hxk, hgx, rfl, _, hc⟩ := hx.at (k := k) (by omega)
    have hst := badI_step hxk
    (conv => whnf)
    refine IdxC.mk (by omega) (by omega) ?_
    (conv => whnf)
    refine hS.lar (l := encRule x) rfl hc id ?_
    (conv => whnf)
    refine hS.new (fun bx w' hb hS => ?_)
    (conv => whnf)
    refine hS.st 1 rfl (Nat.le_of_ble_eq_true rfl) rfl (fun w' hS => ?_)
    replace hS : St w No w' [blk bf 41 [.int .i64 0, .int .i64 0], blk bx 24 (encRule x)] := hS
    have yes : x.bad = true → badI xs 0 = k := fun h => by rw [hi, hst, h]
    have no : x.bad = false → badI xs 0 = badI (xs.drop (k + 1)) (k + 1) := fun h => by rw [hi, hst, h]
    clear hi hst
    repeat' ((conv => whnf); first | refine RetC.mk ?_ | refine NzC.mk (by decide) ?_ | refine RngC.mk (by omega) (by omega) ?_ | refine IdxC.mk (by omega) (by omega) ?_ | refine hS.ld 0 rfl rfl ?_ | refine hS.ld 1 rfl rfl ?_ | refine hS.laX 0 rfl rfl ?_ | refine hS.laX 1 rfl rfl ?_ | refine hS.st 0 rfl (Nat.le_of_ble_eq_true rfl) rfl (fun w' hS => ?_) | refine brD (fun _ => ?_) (fun _ => ?_) | refine brND (fun _ => ?_) (fun _ => ?_) | refine brN (fun _ => ?_) (fun _ => ?_) | refine brI (fun _ => ?_) (fun _ => ?_))
    all_goals first
      | (have hb : x.bad = true := by { clear hS yes no; simp_all [RuleS.bad] <;> intros <;> omega }
         rw [if_neg (by have := yes hb; omega), yes hb]
         exact ⟨rfl, hS.ext⟩)
      | (replace no := no (by clear hS yes no; simp_all [RuleS.bad] <;> intros <;> omega); clear yes; refine LoopE.mk ⟨_, [(3, .int .i64 ((k + 1 : Nat) : Int)), (2, _), (0, _)], ?_, ⟨rfl, rfl, rfl, trivial⟩, ⟨k + 1, rfl, rfl, by omega, hS.keep 1, no⟩⟩; omega)
  · have : k = n := by omega
    subst this
    rw [hi, List.drop_of_length_le (by omega), if_pos (by simp [badI])]
    repeat' ((conv => whnf); first | refine RetC.mk ?_ | refine NzC.mk (by decide) ?_ | refine RngC.mk (by omega) (by omega) ?_ | refine IdxC.mk (by omega) (by omega) ?_ | (refine (fine_ok _).mono ?_; rintro v w' ⟨rfl, hx'⟩; replace hS := hS.no hx'; clear hx') | refine hS.st 0 rfl (Nat.le_of_ble_eq_true rfl) rfl (fun w' hS => ?_) | refine hS.laX 0 rfl rfl ?_ | refine brD (fun _ => ?_) (fun _ => ?_) | refine brND (fun _ => ?_) (fun _ => ?_) | refine brN (fun _ => ?_) (fun _ => ?_) | refine brI (fun _ => ?_) (fun _ => ?_))
    exact ⟨rfl, hS.ext⟩
theorem admitsOf_ok (hx : Slc w 5 encRule G a n xs) (proto port : Int) (out : Bool) :
    CallC Tryd.prog 19 #[.slice a n c, .int .i64 proto, .int .i64 port, .bool out] w fun v w' => v = .bool (admitsL proto port out xs) ∧ Ext No w w' := by
  have hm := hx.max
  have hl := hx.len
  refine fn_intro tabOk Tryd.func19 (by kernel_rfl) rfl Tryd.ntmps19 (Nat.le_of_ble_eq_true rfl) ?_
  have hS := St.start w No
  (conv => whnf)
  refine loopR tabOk (fun σ w' q => ∃ k : Nat, σ = [(9, .int .i64 (k : Int)), (3, .bool out), (2, .int .i64 port), (1, .int .i64 proto), (0, .slice a n c)] ∧ q = n - k ∧ k ≤ n ∧ St w No w' [] ∧ admitsL proto port out xs = admitsL proto port out (xs.drop k))
    (σ' := [(9, .int .i64 ((0 : Nat) : Int)), (3, .bool out), (2, .int .i64 port), (1, .int .i64 proto), (0, .slice a n c)]) (n := n) ⟨rfl, rfl, rfl, rfl, rfl, trivial⟩ ⟨0, rfl, rfl, Nat.zero_le _, hS, by simp⟩ ?_
  clear hS
  rintro _ w1 q ⟨k, rfl, rfl, hk, hS, hi⟩
  (conv => whnf)
  refine brD (fun h3 => ?_) (fun h3 => ?_)
  · obtain ⟨b0, o0, x, hxk, hgx, rfl, _, hc⟩ := hx.at (k := k) (by omega)
    have hst := admits_step (proto := proto) (port := port) (out := out) hxk
    (conv => whnf)
    refine IdxC.mk (by omega) (by omega) ?_
    (conv => whnf)
    refine hS.lar (l := encRule x) rfl hc id ?_
    (conv => whnf)
    refine hS.new (fun bx w' hb hS => ?_)
    (conv => whnf)
    refine hS.st 0 rfl (Nat.le_of_ble_eq_true rfl) rfl (fun w' hS => ?_)
    replace hS : St w No w' [blk bx 24 (encRule x)] := hS
    have yes : x.fits proto port out = true → admitsL proto port out xs = x.allow := fun h => by rw [hi, hst, h]
    have no : x.fits proto port out = false → admitsL proto port out xs = admitsL proto port out (xs.drop (k + 1)) := fun h => by rw [hi, hst, h]
    clear hi hst
    repeat' ((conv => whnf); first | refine RetC.mk ?_ | refine NzC.mk (by decide) ?_ | refine RngC.mk (by omega) (by omega) ?_ | refine IdxC.mk (by omega) (by omega) ?_ | refine hS.ld 0 rfl rfl ?_ | refine hS.laX 0 rfl rfl ?_ | refine brD (fun _ => ?_) (fun _ => ?_) | refine brND (fun _ => ?_) (fun _ => ?_) | refine brN (fun _ => ?_) (fun _ => ?_) | refine brI (fun _ => ?_) (fun _ => ?_))
    all_goals first
      | (refine ⟨congrArg Value.bool (yes ?_).symm, hS.ext⟩; clear hS yes no; simp_all [RuleS.fits] <;> intros <;> omega)
      | (replace no := no (by clear hS yes no; simp_all [RuleS.fits] <;> intros <;> omega); clear yes; refine LoopE.mk ⟨_, [(9, .int .i64 ((k + 1 : Nat) : Int)), (3, _), (2, _), (1, _), (0, _)], ?_, ⟨rfl, rfl, rfl, rfl, rfl, trivial⟩, ⟨k + 1, rfl, rfl, by omega, hS.keep 0, no⟩⟩; omega)
  · repeat' ((conv => whnf); first | refine RetC.mk ?_ | refine NzC.mk (by decide) ?_ | refine RngC.mk (by omega) (by omega) ?_ | refine IdxC.mk (by omega) (by omega) ?_ | refine brD (fun _ => ?_) (fun _ => ?_) | refine brND (fun _ => ?_) (fun _ => ?_) | refine brN (fun _ => ?_) (fun _ => ?_) | refine brI (fun _ => ?_) (fun _ => ?_))
    have : k = n := by omega
    subst this
    rw [hi, List.drop_of_length_le (by omega)]
    exact ⟨rfl, hS.ext⟩
theorem ownRules_ok (hx : Slc w 5 encRule G a n xs) (hn : n ≤ 1000) :
    CallC Tryd.prog 13 #[.slice a n c] w fun v w' => ∃ a' c', v = .slice a' n c' ∧ Ext No w w' ∧ (ownL 24 5 encRule v xs).holds w' ∧ Fresh w w' v := by
  have hl := hx.len
  refine fn_intro tabOk Tryd.func13 (by kernel_rfl) rfl Tryd.ntmps13 (Nat.le_of_ble_eq_true rfl) ?_
  have hS := St.start w No
  have hS := hS.add (ownL_local (e := 24) (enc := encRule) (sz := 5) (v := .slice none 0 0) (xs := [])) (own_nil _ _ _) (by simp [ownL, own, Value.ownBlock]) (by simp [ownL, own, Value.ownBlock])
  (conv => whnf)
  refine hS.appS codRule 0 Tryd.underlying22 (bytes := 32) (by kernel_rfl) (z := .agg (encRule noRule).toArray) (by kernel_rfl) rfl rfl hx (by unfold maxLen; simp; omega) (by simp; omega) (fun a2 c2 w' hS => ?_)
  have hn0 : ([] : List RuleS).length + n = n := by simp
  rw [hn0, List.nil_append] at hS
  rw [hn0]
  repeat' ((conv => whnf); first | refine RetC.mk ?_ | refine NzC.mk (by decide) ?_ | refine RngC.mk (by omega) (by omega) ?_ | refine IdxC.mk (by omega) (by omega) ?_ | refine brD (fun _ => ?_) (fun _ => ?_) | refine brND (fun _ => ?_) (fun _ => ?_) | refine brN (fun _ => ?_) (fun _ => ?_) | refine brI (fun _ => ?_) (fun _ => ?_))
  exact ⟨a2, c2, rfl, hS.ext, hS.get 0 rfl, hS.freshAt 0 rfl⟩
end
end Go.Proofs.YtakdekkieobbaaaDoor
