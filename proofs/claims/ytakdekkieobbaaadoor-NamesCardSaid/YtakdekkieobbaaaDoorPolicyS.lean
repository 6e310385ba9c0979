
/-
  slices.Grow, slices.Concat of two lists of rules; policy.Same and the reference's SameOf.
-/
import Derived.Test.YtakdekkieobbaaaDoorPolicyB
namespace Go.Proofs.YtakdekkieobbaaaDoor
open Go Ev

def encI1 (k : Int) : List Value := [.int .i64 k]
theorem codI1 : Codec 1 encI1 := ⟨fun _ => rfl, fun _ => rfl, by decide⟩

section
variable {w : World} {G G' : RuleS → Prop} {a b : Option Addr} {n m c d : Nat} {xs ys : List RuleS}
theorem slcNone {P : Program} {t e : TypeId} {q : IntKind} {i : Int} {k : Value → Prop} (hu : P.underlying t = some (.slice e)) (he : (P.info? e).isSome = true) (hi : i = 0) (hk : k (.slice none 0 0)) : PureC P (Instr.sliceAt t (.slice none 0 0) none (some (.int q i)) none) k := by
  subst hi
  have ht : P.underlying t = some (.slice (P.elem t)) := by rw [elem_of hu]; exact hu
  refine PureC.of (fun w => ?_) hk
  rw [Go.run_sliceAt_slice w t _ _ _ _ ht, Go.run_slice_h w t none 0 0 ht q _ (by omega) (by omega), elem_of hu, cellsOf_run he]
  rfl
theorem slcZero {P : Program} {t e : TypeId} {q : IntKind} {i : Int} {g n c : Nat} {k : Value → Prop} (hu : P.underlying t = some (.slice e)) (he : (P.info? e).isSome = true) (hi : i = 0) (hk : k (.slice (some ⟨g, 0, none⟩) 0 c)) : PureC P (Instr.sliceAt t (.slice (some ⟨g, 0, none⟩) n c) none (some (.int q i)) none) k := by
  subst hi
  have ht : P.underlying t = some (.slice (P.elem t)) := by rw [elem_of hu]; exact hu
  refine PureC.of (fun w => ?_) hk
  rw [Go.run_sliceAt_slice w t _ _ _ _ ht, Go.run_slice_h w t _ n c ht q _ (by omega) (by omega), elem_of hu, cellsOf_run he]
  by_cases h : c = 0
  · subst h; rfl
  · simp [Go.sliced, h, add0]
theorem grow_ok (k : Nat) (hk : k ≤ 1000) (w : World) : CallC Tryd.prog 67 #[.slice none 0 0, .int .i64 (k : Int)] w fun v w' => (∃ a c, v = .slice a 0 c) ∧ Ext No w w' ∧ (ownL 24 5 encRule v []).holds w' ∧ Fresh w w' v := by
  refine fn_intro tabOk Tryd.func67 (by kernel_rfl) rfl Tryd.ntmps67 (Nat.le_of_ble_eq_true rfl) ?_
  have hS := St.start w No
  repeat' ((conv => whnf); first | refine RetC.mk ?_ | refine NzC.mk (by decide) ?_ | refine RngC.mk (by omega) (by omega) ?_ | refine IdxC.mk (by omega) (by omega) ?_ | refine RngC.mk (by omega) (by omega) ?_ | refine brD (fun _ => ?_) (fun _ => ?_) | refine brND (fun _ => ?_) (fun _ => ?_) | refine brN (fun _ => ?_) (fun _ => ?_) | refine brI (fun _ => ?_) (fun _ => ?_))
  · rename_i hpos
    (conv => whnf)
    refine slcNone Tryd.underlying22 (by kernel_rfl) rfl ?_
    rw [show (k : Int) - (((0 : Nat) : Int) - ((0 : Nat) : Int)) = (k : Int) by omega]
    (conv => whnf)
    refine growZ Tryd.underlying22 Tryd.underlying3 (sz := 5) (bytes := 32) (by kernel_rfl) (z := .agg (encRule noRule).toArray) (by kernel_rfl) rfl (by omega) (by omega) (by unfold maxLen; omega) (by omega) (fun g cap w' hx hg ho => ?_)
    (conv => whnf)
    refine slcZero Tryd.underlying22 (by kernel_rfl) rfl ?_
    repeat' ((conv => whnf); first | refine RetC.mk ?_ | refine NzC.mk (by decide) ?_ | refine RngC.mk (by omega) (by omega) ?_ | refine IdxC.mk (by omega) (by omega) ?_ | refine brD (fun _ => ?_) (fun _ => ?_) | refine brND (fun _ => ?_) (fun _ => ?_) | refine brN (fun _ => ?_) (fun _ => ?_) | refine brI (fun _ => ?_) (fun _ => ?_))
    refine ⟨⟨_, _, rfl⟩, hx, ho, fun b hb => ?_⟩
    obtain rfl : g = b := by simpa [Value.ownBlock] using hb
    refine ⟨hg, ?_⟩
    obtain ⟨_, ⟨h6, _⟩ | ⟨g', cap', cur, h6, _, h7, _⟩⟩ := ho
    · cases h6
    · cases h6
      exact (Array.getElem?_eq_some_iff.1 h7).1
  · exact ⟨⟨none, 0, rfl⟩, hS.ext, own_nil _ _ _, fun b hb => by simp [Value.ownBlock] at hb⟩
def encSl (p : Option Addr × Nat × Nat) : Value := .slice p.1 p.2.1 p.2.2
theorem concat_ok {bk ck : Nat} (hx : Slc w 5 encRule G a n xs) (hy : Slc w 5 encRule G' b m ys) (hn : n ≤ 100) (hm : m ≤ 100) (hc0 : CellsAt w bk 0 [.slice a n c, .slice b m d]) :
    CallC Tryd.prog 41 #[.slice (some ⟨bk, 0, none⟩) 2 ck] w fun v w' => (∃ a' c', v = .slice a' (n + m) c') ∧ Ext No w w' ∧ (ownL 24 5 encRule v (xs ++ ys)).holds w' ∧ Fresh w w' v := by
  have hl := hx.len
  have hl2 := hy.len
  refine fn_intro tabOk Tryd.func41 (by kernel_rfl) rfl Tryd.ntmps41 (Nat.le_of_ble_eq_true rfl) ?_
  have hS := St.start w No
  (conv => whnf)
  refine loopR tabOk (fun σ w' q => ∃ k : Nat, σ = [(11, .int .i64 (k : Int)), (10, .int .i64 2), (9, .slice (some ⟨bk, 0, none⟩) 2 ck), (3, .int .i64 (if k = 0 then 0 else if k = 1 then (n : Int) else (n : Int) + m)), (2, .slice none 0 0), (0, .slice (some ⟨bk, 0, none⟩) 2 ck)] ∧ q = 2 - k ∧ k ≤ 2 ∧ St w No w' [])
    (σ' := [(11, .int .i64 ((0 : Nat) : Int)), (10, .int .i64 2), (9, .slice (some ⟨bk, 0, none⟩) 2 ck), (3, .int .i64 0), (2, .slice none 0 0), (0, .slice (some ⟨bk, 0, none⟩) 2 ck)]) (n := 2) ⟨rfl, rfl, rfl, rfl, rfl, rfl, trivial⟩ ⟨0, rfl, rfl, by omega, hS⟩ ?_
  clear hS
  rintro _ w1 q ⟨k, rfl, rfl, hk, hS⟩
  have hk3 : k = 0 ∨ k = 1 ∨ k = 2 := by omega
  rcases hk3 with rfl | rfl | rfl
  · repeat' ((conv => whnf); first | refine RetC.mk ?_ | refine NzC.mk (by decide) ?_ | refine RngC.mk (by omega) (by omega) ?_ | refine IdxC.mk (by omega) (by omega) ?_ | refine hS.ldr (hc0.one 0 rfl) id ?_ | refine RngC.mk (by simp; omega) (by simp; omega) ?_ | refine brD (fun _ => ?_) (fun _ => ?_) | refine brND (fun _ => ?_) (fun _ => ?_) | refine brN (fun _ => ?_) (fun _ => ?_) | refine brI (fun _ => ?_) (fun _ => ?_))
    refine LoopE.mk ⟨_, [(11, .int .i64 ((1 : Nat) : Int)), (10, _), (9, _), (3, .int .i64 (n : Int)), (2, _), (0, _)], ?_, ⟨rfl, rfl, rfl, by show some (Value.int .i64 ((0 : Int) + (n : Int))) = some (.int .i64 (n : Int)); rw [Int.zero_add], rfl, rfl, trivial⟩, ⟨1, rfl, rfl, by omega, hS⟩⟩
    omega
  · repeat' ((conv => whnf); first | refine RetC.mk ?_ | refine NzC.mk (by decide) ?_ | refine RngC.mk (by omega) (by omega) ?_ | refine IdxC.mk (by omega) (by omega) ?_ | refine hS.ldr (hc0.one 1 rfl) id ?_ | refine RngC.mk (by simp; omega) (by simp; omega) ?_ | refine brD (fun _ => ?_) (fun _ => ?_) | refine brND (fun _ => ?_) (fun _ => ?_) | refine brN (fun _ => ?_) (fun _ => ?_) | refine brI (fun _ => ?_) (fun _ => ?_))
    refine LoopE.mk ⟨_, [(11, .int .i64 ((2 : Nat) : Int)), (10, _), (9, _), (3, .int .i64 ((n : Int) + m)), (2, _), (0, _)], ?_, ⟨rfl, rfl, rfl, rfl, rfl, rfl, trivial⟩, ⟨2, rfl, rfl, by omega, hS⟩⟩
    omega
  · (conv => whnf)
    refine (grow_ok (n + m) (by omega) _).mono ?_
    rintro v w2 ⟨⟨a1, c1, rfl⟩, hx', ho, hf⟩
    replace hS := hS.madeL hx' ho hf
    clear hx' ho hf
    (conv => whnf)
    refine loopR tabOk (fun σ w' q => ∃ (k : Nat) (a' : Option Addr) (c' : Nat), σ = [(27, .int .i64 (k : Int)), (26, .int .i64 2), (25, .slice (some ⟨bk, 0, none⟩) 2 ck), (6, .slice a' (if k = 0 then 0 else if k = 1 then n else n + m) c')] ∧ q = 2 - k ∧ k ≤ 2 ∧ St w No w' [ownL 24 5 encRule (.slice a' (if k = 0 then 0 else if k = 1 then n else n + m) c') (if k = 0 then [] else if k = 1 then xs else xs ++ ys)])
      (σ' := [(27, .int .i64 ((0 : Nat) : Int)), (26, .int .i64 2), (25, .slice (some ⟨bk, 0, none⟩) 2 ck), (6, .slice a1 0 c1)]) (n := 2) ⟨rfl, rfl, rfl, rfl, trivial⟩ ⟨0, a1, c1, rfl, rfl, by omega, hS⟩ ?_
    clear hS
    rintro _ w3 q ⟨k, a', c', rfl, rfl, hk, hS⟩
    have hk3 : k = 0 ∨ k = 1 ∨ k = 2 := by omega
    rcases hk3 with rfl | rfl | rfl
    · replace hS : St w No w3 [ownL 24 5 encRule (.slice a' 0 c') []] := hS
      repeat' ((conv => whnf); first | refine RetC.mk ?_ | refine NzC.mk (by decide) ?_ | refine RngC.mk (by omega) (by omega) ?_ | refine IdxC.mk (by omega) (by omega) ?_ | refine hS.ldr (hc0.one 0 rfl) id ?_ | refine brD (fun _ => ?_) (fun _ => ?_) | refine brND (fun _ => ?_) (fun _ => ?_) | refine brN (fun _ => ?_) (fun _ => ?_) | refine brI (fun _ => ?_) (fun _ => ?_))
      refine hS.appS codRule 0 Tryd.underlying22 (bytes := 32) (by kernel_rfl) (z := .agg (encRule noRule).toArray) (by kernel_rfl) rfl rfl (hx.no hS.ext) (by unfold maxLen; simp; omega) (by simp; omega) (fun a2 c2 w' hS => ?_)
      rw [show ([] : List RuleS).length + n = n by simp, List.nil_append] at hS
      rw [show ([] : List RuleS).length + n = n by simp]
      repeat' ((conv => whnf); first | refine RetC.mk ?_ | refine NzC.mk (by decide) ?_ | refine RngC.mk (by omega) (by omega) ?_ | refine IdxC.mk (by omega) (by omega) ?_ | refine brD (fun _ => ?_) (fun _ => ?_) | refine brND (fun _ => ?_) (fun _ => ?_) | refine brN (fun _ => ?_) (fun _ => ?_) | refine brI (fun _ => ?_) (fun _ => ?_))
      refine LoopE.mk ⟨_, [(27, .int .i64 ((1 : Nat) : Int)), (26, _), (25, _), (6, .slice a2 n c2)], ?_, ⟨rfl, rfl, rfl, rfl, trivial⟩, ⟨1, a2, c2, rfl, rfl, by omega, hS⟩⟩
      omega
    · replace hS : St w No w3 [ownL 24 5 encRule (.slice a' n c') xs] := hS
      repeat' ((conv => whnf); first | refine RetC.mk ?_ | refine NzC.mk (by decide) ?_ | refine RngC.mk (by omega) (by omega) ?_ | refine IdxC.mk (by omega) (by omega) ?_ | refine hS.ldr (hc0.one 1 rfl) id ?_ | refine brD (fun _ => ?_) (fun _ => ?_) | refine brND (fun _ => ?_) (fun _ => ?_) | refine brN (fun _ => ?_) (fun _ => ?_) | refine brI (fun _ => ?_) (fun _ => ?_))
      refine hS.appS codRule 0 Tryd.underlying22 (bytes := 32) (by kernel_rfl) (z := .agg (encRule noRule).toArray) (by kernel_rfl) rfl rfl (hy.no hS.ext) (by unfold maxLen; omega) (by omega) (fun a2 c2 w' hS => ?_)
      rw [hl] at hS ⊢
      repeat' ((conv => whnf); first | refine RetC.mk ?_ | refine NzC.mk (by decide) ?_ | refine RngC.mk (by omega) (by omega) ?_ | refine IdxC.mk (by omega) (by omega) ?_ | refine brD (fun _ => ?_) (fun _ => ?_) | refine brND (fun _ => ?_) (fun _ => ?_) | refine brN (fun _ => ?_) (fun _ => ?_) | refine brI (fun _ => ?_) (fun _ => ?_))
      refine LoopE.mk ⟨_, [(27, .int .i64 ((2 : Nat) : Int)), (26, _), (25, _), (6, .slice a2 (n + m) c2)], ?_, ⟨rfl, rfl, rfl, rfl, trivial⟩, ⟨2, a2, c2, rfl, rfl, by omega, hS⟩⟩
      omega
    · replace hS : St w No w3 [ownL 24 5 encRule (.slice a' (n + m) c') (xs ++ ys)] := hS
      repeat' ((conv => whnf); first | refine RetC.mk ?_ | refine NzC.mk (by decide) ?_ | refine RngC.mk (by omega) (by omega) ?_ | refine IdxC.mk (by omega) (by omega) ?_ | refine brD (fun _ => ?_) (fun _ => ?_) | refine brND (fun _ => ?_) (fun _ => ?_) | refine brN (fun _ => ?_) (fun _ => ?_) | refine brI (fun _ => ?_) (fun _ => ?_))
      exact ⟨⟨a', c', rfl⟩, hS.ext, hS.get 0 rfl, hS.freshAt 0 rfl⟩

/-! ### Same: the plain law -/
def okAt (xs ys : List RuleS) (p : Int) : Prop := ∀ proto, proto = 1 ∨ proto = 2 → ∀ out, admitsL proto p out xs = admitsL proto p out ys
def SameL (xs ys : List RuleS) : Prop := ∀ p, 1 ≤ p → p ≤ 65535 → okAt xs ys p
theorem admits_move {proto : Int} {out : Bool} {p q : Int} : ∀ {l : List RuleS}, (∀ r ∈ l, (r.low ≤ p ↔ r.low ≤ q) ∧ (p ≤ r.top ↔ q ≤ r.top)) → admitsL proto p out l = admitsL proto q out l
  | [], _ => rfl
  | r :: l, h => by
    have ih := admits_move (proto := proto) (out := out) (l := l) fun x hx => h x (List.mem_cons_of_mem _ hx)
    have h1 := h r (by simp)
    have e : r.fits proto p out = r.fits proto q out := by
      unfold RuleS.fits
      congr 1
      rw [h1.1, h1.2]
    unfold admitsL
    rw [e, ih]
/-- The nearest border at or below a port. -/
theorem border (l : List RuleS) (hl : ∀ r ∈ l, r.bad = false) (p : Int) (hp : 1 ≤ p) : ∃ q, (q = 1 ∨ ∃ r ∈ l, q = r.low ∨ q = r.top + 1) ∧ 1 ≤ q ∧ q ≤ p ∧ ∀ r ∈ l, (r.low ≤ p ↔ r.low ≤ q) ∧ (p ≤ r.top ↔ q ≤ r.top) := by
  induction l with
  | nil => exact ⟨1, .inl rfl, by omega, hp, fun r hr => by cases hr⟩
  | cons x l ih =>
    obtain ⟨q, h1, h2, h3, h4⟩ := ih fun r hr => hl r (List.mem_cons_of_mem _ hr)
    have hx := hl x (by simp)
    have hb : ¬ (x.proto < 0 ∨ x.proto > 2 ∨ x.low < 1 ∨ x.low > x.top ∨ x.top > 65535) := of_decide_eq_false hx
    have h1' : q = 1 ∨ ∃ r ∈ x :: l, q = r.low ∨ q = r.top + 1 := h1.imp id fun ⟨r, hr, h⟩ => ⟨r, List.mem_cons_of_mem _ hr, h⟩
    have up : ∀ q', q ≤ q' → q' ≤ p → ∀ r ∈ l, (r.low ≤ p ↔ r.low ≤ q') ∧ (p ≤ r.top ↔ q' ≤ r.top) := fun q' ha hb r hr => by
      have := h4 r hr
      omega
    by_cases ha : q ≤ x.top ∧ x.top < p
    · refine ⟨x.top + 1, .inr ⟨x, by simp, .inr rfl⟩, by omega, by omega, fun r hr => ?_⟩
      rcases List.mem_cons.1 hr with rfl | hr
      · omega
      · exact up _ (by omega) (by omega) r hr
    · by_cases hc : q < x.low ∧ x.low ≤ p
      · refine ⟨x.low, .inr ⟨x, by simp, .inl rfl⟩, by omega, by omega, fun r hr => ?_⟩
        rcases List.mem_cons.1 hr with rfl | hr
        · omega
        · exact up _ (by omega) (by omega) r hr
      · refine ⟨q, h1', h2, h3, fun r hr => ?_⟩
        rcases List.mem_cons.1 hr with rfl | hr
        · omega
        · exact h4 r hr
theorem same_of_borders {xs ys : List RuleS} (hx : ∀ r ∈ xs, r.bad = false) (hy : ∀ r ∈ ys, r.bad = false) (h1 : okAt xs ys 1) (h : ∀ r ∈ xs ++ ys, (r.low ≤ 65535 → okAt xs ys r.low) ∧ (r.top + 1 ≤ 65535 → okAt xs ys (r.top + 1))) : SameL xs ys := by
  intro p hp hp2 proto hpr out
  obtain ⟨q, hq, q1, q2, q3⟩ := border (xs ++ ys) (fun r hr => (List.mem_append.1 hr).elim (hx r) (hy r)) p hp
  rw [admits_move (p := p) (q := q) fun r hr => q3 r (List.mem_append_left _ hr), admits_move (p := p) (q := q) (l := ys) fun r hr => q3 r (List.mem_append_right _ hr)]
  rcases hq with rfl | ⟨r, hr, rfl | rfl⟩
  · exact h1 proto hpr out
  · exact (h r hr).1 (by omega) proto hpr out
  · exact (h r hr).2 (by omega) proto hpr out

def portsR (l : List RuleS) : List Int := 1 :: l.flatMap fun r => [r.low, r.top + 1]
theorem portsR_step {l : List RuleS} {k : Nat} {r : RuleS} (h : l[k]? = some r) : portsR (l.take (k + 1)) = portsR (l.take k) ++ [r.low, r.top + 1] := by
  unfold portsR
  rw [List.take_add_one, h, List.flatMap_append]
  simp
theorem portsR_len (l : List RuleS) : (portsR l).length = 2 * l.length + 1 := by
  unfold portsR
  induction l with
  | nil => rfl
  | cons x l ih => simp only [List.flatMap_cons, List.length_cons, List.length_append, List.length_nil] at ih ⊢; omega
theorem portsR_mem {l : List RuleS} {p : Int} : p ∈ portsR l ↔ p = 1 ∨ ∃ r ∈ l, p = r.low ∨ p = r.top + 1 := by
  unfold portsR
  simp
theorem portsR_pos {l : List RuleS} (hl : ∀ r ∈ l, r.bad = false) {p : Int} (hp : p ∈ portsR l) : 1 ≤ p := by
  rcases portsR_mem.1 hp with rfl | ⟨r, hr, h⟩
  · omega
  · have hb : ¬ (r.proto < 0 ∨ r.proto > 2 ∨ r.low < 1 ∨ r.low > r.top ∨ r.top > 65535) := of_decide_eq_false (hl r hr)
    omega
theorem same_iff {xs ys : List RuleS} (hx : ∀ r ∈ xs, r.bad = false) (hy : ∀ r ∈ ys, r.bad = false) : (∀ p ∈ portsR (xs ++ ys), p ≤ 65535 → okAt xs ys p) ↔ SameL xs ys := by
  constructor
  · intro h
    refine same_of_borders hx hy (h 1 (portsR_mem.2 (.inl rfl)) (by omega)) fun r hr => ⟨fun hl => h _ (portsR_mem.2 (.inr ⟨r, hr, .inl rfl⟩)) hl, fun hl => h _ (portsR_mem.2 (.inr ⟨r, hr, .inr rfl⟩)) hl⟩
  · intro h p hp hle
    exact h p (portsR_pos (fun r hr => (List.mem_append.1 hr).elim (hx r) (hy r)) hp) hle
theorem same_ok {E : Nat → Addr} {q : Nat} (hx : Slc w 5 encRule G a n xs) (hy : Slc w 5 encRule G' b m ys) (hE : Errs w E q [2]) :
    CallC Tryd.prog 15 #[.slice a n c, .slice b m d] w fun v w' => (∃ s e, v = .tuple #[.bool s, e] ∧ FaultV E w w' e (if (faultL xs).1 = 0 then (faultL ys).1 else (faultL xs).1) (if (faultL xs).1 = 0 then (faultL ys).2 else (faultL xs).2) ∧ (s = true ↔ GoodR xs ∧ GoodR ys ∧ SameL xs ys)) ∧ Ext No w w' := by
  have hl := hx.len
  have hl2 := hy.len
  have hg := @fault_good xs
  have hg2 := @fault_good ys
  refine fn_intro tabOk Tryd.func15 (by kernel_rfl) rfl Tryd.ntmps15 (Nat.le_of_ble_eq_true rfl) ?_
  have hS := St.start w No
  (conv => whnf)
  refine (rcheck_ok hx hE).mono ?_
  rintro v w2 ⟨hf, hx'⟩
  replace hS := hS.no hx'
  generalize hfl : faultL xs = F at hf hg
  obtain ⟨fc, fa⟩ := F
  dsimp only at hf hg ⊢
  cases fc with
  | succ j =>
    rw [if_neg (by omega), if_neg (by omega)]
    obtain ⟨t, u, rfl⟩ := hf.ne
    repeat' ((conv => whnf); first | refine RetC.mk ?_ | refine NzC.mk (by decide) ?_ | refine RngC.mk (by omega) (by omega) ?_ | refine IdxC.mk (by omega) (by omega) ?_ | refine brD (fun _ => ?_) (fun _ => ?_) | refine brND (fun _ => ?_) (fun _ => ?_) | refine brN (fun _ => ?_) (fun _ => ?_) | refine brI (fun _ => ?_) (fun _ => ?_))
    exact ⟨⟨_, _, rfl, hf, by simp; intro h; have := hg.2 h; omega⟩, hS.ext⟩
  | zero =>
  have hgx : GoodR xs := hg.1 rfl
  rw [if_pos rfl, if_pos rfl]
  obtain ⟨rfl, rfl⟩ : v = .nilIface ∧ fa = -1 := by
    rcases hf with ⟨h1, h⟩ | ⟨_, h, _⟩
    · exact ⟨h, h1⟩
    · omega
  clear hf hg
  have hle := hS.ext.size
  (conv => whnf)
  refine (rcheck_ok (hy.no hS.ext) (hE.ext hS.ext fun _ h => h.elim)).mono ?_
  rintro v w2 ⟨hf, hx'⟩
  replace hS := hS.no hx'
  generalize hfl2 : faultL ys = F at hf hg2
  obtain ⟨fc, fa⟩ := F
  dsimp only at hf hg2 ⊢
  cases fc with
  | succ j =>
    obtain ⟨t, u, rfl⟩ := hf.ne
    repeat' ((conv => whnf); first | refine RetC.mk ?_ | refine NzC.mk (by decide) ?_ | refine RngC.mk (by omega) (by omega) ?_ | refine IdxC.mk (by omega) (by omega) ?_ | refine brD (fun _ => ?_) (fun _ => ?_) | refine brND (fun _ => ?_) (fun _ => ?_) | refine brN (fun _ => ?_) (fun _ => ?_) | refine brI (fun _ => ?_) (fun _ => ?_))
    exact ⟨⟨_, _, rfl, hf.older hle, by simp; intro _ h; have := hg2.2 h; omega⟩, hS.ext⟩
  | zero =>
  have hgy : GoodR ys := hg2.1 rfl
  obtain ⟨rfl, rfl⟩ : v = .nilIface ∧ fa = -1 := by
    rcases hf with ⟨h1, h⟩ | ⟨_, h, _⟩
    · exact ⟨h, h1⟩
    · omega
  clear hf hg2 hle
  have hn := hgx.1
  have hm := hgy.1
  (conv => whnf)
  refine hS.lit (cs := encI1 1) Tryd.underlying48 (sz := 1) (by kernel_rfl) (z := .int .i64 0) (by kernel_rfl) rfl rfl (by rfl) (fun bp w' hbp hS => ?_)
  replace hS := hS.lit_own codI1 0 rfl [1] 1 rfl (by decide) rfl
  (conv => whnf)
  refine hS.lit (cs := [.slice a n c, .slice b m d]) Tryd.underlying129 (sz := 1) (by kernel_rfl) (z := .slice none 0 0) (by kernel_rfl) rfl rfl (by rfl) (fun bk w' hbk hS => ?_)
  have hc0 : CellsAt w' bk 0 [.slice a n c, .slice b m d] := (hS.blk 1 rfl).cells rfl
  (conv => whnf)
  refine (concat_ok (hx.no hS.ext) (hy.no hS.ext) (by omega) (by omega) hc0).mono ?_
  rintro v w2 ⟨⟨a1, c1, rfl⟩, hx', ho, hf⟩
  replace hS := hS.madeL hx' ho hf
  clear hx' ho hf hc0
  replace hS : St w No w2 [ownL 3 1 encI1 (.slice (some ⟨bp, 0, none⟩) 1 1) [1], ownL 24 5 encRule (.slice a1 (n + m) c1) (xs ++ ys)] := hS.sel [0, 2] (by decide)
  have hlen : (xs ++ ys).length = n + m := by simp [hl, hl2]
  (conv => whnf)
  refine loopR tabOk (fun σ w' q => ∃ (k : Nat) (a' : Option Addr) (c' : Nat), σ = [(33, .int .i64 (k : Int)), (32, .int .i64 ((n + m : Nat) : Int)), (31, .slice a1 (n + m) c1), (8, .slice a' (2 * k + 1) c'), (1, .slice b m d), (0, .slice a n c)] ∧ q = n + m - k ∧ k ≤ n + m ∧ St w No w' [ownL 3 1 encI1 (.slice a' (2 * k + 1) c') (portsR ((xs ++ ys).take k)), ownL 24 5 encRule (.slice a1 (n + m) c1) (xs ++ ys)])
    (σ' := [(33, .int .i64 ((0 : Nat) : Int)), (32, .int .i64 ((n + m : Nat) : Int)), (31, .slice a1 (n + m) c1), (8, .slice (some ⟨bp, 0, none⟩) 1 1), (1, .slice b m d), (0, .slice a n c)]) (n := n + m) ⟨rfl, rfl, rfl, rfl, rfl, rfl, trivial⟩ ⟨0, _, _, rfl, rfl, Nat.zero_le _, hS⟩ ?_
  clear hS
  rintro _ w3 q ⟨k, a', c', rfl, rfl, hk, hS⟩
  have hz := ownL_slc (G := fun _ => True) codRule (hS.get 1 rfl) fun _ _ => trivial
  (conv => whnf)
  refine brD (fun h3 => ?_) (fun h3 => ?_)
  · obtain ⟨b0, o0, r, hrk, _, rfl, _, hc⟩ := hz.at (k := k) (by omega)
    have hst := portsR_step hrk
    have hpl := portsR_len ((xs ++ ys).take k)
    rw [List.length_take, hlen, Nat.min_eq_left hk] at hpl
    have hbr : ¬ (r.proto < 0 ∨ r.proto > 2 ∨ r.low < 1 ∨ r.low > r.top ∨ r.top > 65535) := of_decide_eq_false ((List.mem_append.1 (List.mem_of_getElem? hrk)).elim (hgx.2 r) (hgy.2 r))
    (conv => whnf)
    refine IdxC.mk (by omega) (by omega) ?_
    (conv => whnf)
    refine LdA.mk ⟨encRule r, rfl, hc, ?_⟩
    (conv => whnf)
    refine hS.new (fun bx w' hb hS => ?_)
    (conv => whnf)
    refine hS.st 2 rfl (Nat.le_of_ble_eq_true rfl) rfl (fun w' hS => ?_)
    (conv => whnf)
    refine hS.ld 2 rfl rfl ?_
    (conv => whnf)
    refine hS.ld 2 rfl rfl ?_
    (conv => whnf)
    refine RngC.mk (by omega) (by omega) ?_
    (conv => whnf)
    refine hS.lit (cs := [.int .i64 r.low, .int .i64 (r.top + 1)]) Tryd.underlying48 (sz := 1) (by kernel_rfl) (z := .int .i64 0) (by kernel_rfl) rfl rfl (by rfl) (fun bl w' hbl hS => ?_)
    (conv => whnf)
    refine hS.appS codI1 0 (ys := [r.low, r.top + 1]) (G := fun _ => True) Tryd.underlying48 (bytes := 8) (by kernel_rfl) (z := .int .i64 0) (by kernel_rfl) rfl rfl (Slc.of_blk codI1 (hS.blk 3 rfl) rfl (by decide) (fun _ _ => trivial) rfl) (by rw [hpl]; unfold maxLen; omega) (by rw [hpl]; omega) (fun a2 c2 w' hS => ?_)
    rw [← hst, hpl] at hS
    rw [hpl]
    (conv => whnf)
    refine RngC.mk (by omega) (by omega) ?_
    (conv => whnf)
    refine LoopE.mk ⟨_, [(33, .int .i64 ((k + 1 : Nat) : Int)), (32, _), (31, _), (8, .slice a2 (2 * (k + 1) + 1) c2), (1, _), (0, _)], ?_, ⟨rfl, rfl, rfl, by show some (Value.slice a2 (2 * k + 1 + 2) c2) = _; rfl, rfl, rfl, trivial⟩, ⟨k + 1, a2, c2, rfl, rfl, by omega, hS.keep 2⟩⟩
    omega
  · obtain rfl : k = n + m := by omega
    rw [List.take_of_length_le (by omega)] at hS
    have hpl := portsR_len (xs ++ ys)
    rw [hlen] at hpl
    have hiff := same_iff (fun r hr => hgx.2 r hr) (fun r hr => hgy.2 r hr)
    generalize portsR (xs ++ ys) = ports at hS hpl hiff
    have hN : 2 * (n + m) + 1 ≤ 100 := by omega
    generalize 2 * (n + m) + 1 = N at hS hpl hN
    (conv => whnf)
    refine loopR tabOk (fun σ w' q => ∃ k : Nat, σ = [(48, .int .i64 (k : Int)), (47, .int .i64 (N : Int)), (46, .slice a' N c'), (1, .slice b m d), (0, .slice a n c)] ∧ q = N - k ∧ k ≤ N ∧ St w No w' [ownL 3 1 encI1 (.slice a' N c') ports] ∧ ∀ (j : Nat) p, j < k → ports[j]? = some p → p ≤ 65535 → okAt xs ys p)
      (σ' := [(48, .int .i64 ((0 : Nat) : Int)), (47, .int .i64 (N : Int)), (46, .slice a' N c'), (1, .slice b m d), (0, .slice a n c)]) (n := N) ⟨rfl, rfl, rfl, rfl, rfl, trivial⟩ ⟨0, rfl, rfl, Nat.zero_le _, hS.keep 1, fun j p hj => by omega⟩ ?_
    clear hS
    rintro _ w1 q ⟨k, rfl, rfl, hk, hS, hi⟩
    have hz := ownL_slc (G := fun _ => True) codI1 (hS.get 0 rfl) fun _ _ => trivial
    (conv => whnf)
    refine brD (fun h4 => ?_) (fun h4 => ?_)
    · obtain ⟨b0, o0, p, hpk, _, rfl, _, hc⟩ := hz.at (k := k) (by omega)
      (conv => whnf)
      refine IdxC.mk (by omega) (by omega) ?_
      (conv => whnf)
      refine LdC.mk ⟨.int .i64 p, by simpa using hc.one 0 rfl, ?_⟩
      (conv => whnf)
      refine hS.lit (cs := [.int .i64 1, .int .i64 2]) Tryd.underlying48 (sz := 1) (by kernel_rfl) (z := .int .i64 0) (by kernel_rfl) rfl rfl (by rfl) (fun bpr w' hbp hS => ?_)
      (conv => whnf)
      refine loopR tabOk (fun σ w' q => ∃ i : Nat, σ = [(54, .int .i64 (i : Int)), (53, .int .i64 2), (52, .slice (some ⟨bpr, 0, none⟩) 2 2), (48, .int .i64 (k : Int)), (47, .int .i64 (N : Int)), (46, .slice (some ⟨b0, o0, none⟩) N c'), (12, .int .i64 p), (1, .slice b m d), (0, .slice a n c)] ∧ q = 2 - i ∧ i ≤ 2 ∧ St w No w' [ownL 3 1 encI1 (.slice (some ⟨b0, o0, none⟩) N c') ports, blk bpr 3 [.int .i64 1, .int .i64 2]] ∧ (p ≤ 65535 → (0 < i → ∀ out, admitsL 1 p out xs = admitsL 1 p out ys) ∧ (1 < i → ∀ out, admitsL 2 p out xs = admitsL 2 p out ys)))
        (σ' := [(54, .int .i64 ((0 : Nat) : Int)), (53, .int .i64 2), (52, .slice (some ⟨bpr, 0, none⟩) 2 2), (48, .int .i64 (k : Int)), (47, .int .i64 (N : Int)), (46, .slice (some ⟨b0, o0, none⟩) N c'), (12, .int .i64 p), (1, .slice b m d), (0, .slice a n c)]) (n := 2) ⟨rfl, rfl, rfl, rfl, rfl, rfl, rfl, rfl, rfl, trivial⟩ ⟨0, rfl, rfl, by omega, hS, fun _ => ⟨fun h => absurd h (by omega), fun h => absurd h (by omega)⟩⟩ ?_
      clear hS
      rintro _ w4 q ⟨i, rfl, rfl, hi2, hS, hpr⟩
      have hi3 : i = 0 ∨ i = 1 ∨ i = 2 := by omega
      rcases hi3 with rfl | rfl | rfl
      · skip
        repeat' ((conv => whnf); first | refine RetC.mk ?_ | refine NzC.mk (by decide) ?_ | refine RngC.mk (by omega) (by omega) ?_ | refine IdxC.mk (by omega) (by omega) ?_ | refine hS.ld 1 rfl rfl ?_ | refine hS.lit (cs := [.bool false, .bool true]) Tryd.underlying93 (sz := 1) (by kernel_rfl) (z := .bool false) (by kernel_rfl) rfl rfl (by rfl) (fun bo w' hbo hS => ?_) | refine brD (fun _ => ?_) (fun _ => ?_) | refine brND (fun _ => ?_) (fun _ => ?_) | refine brN (fun _ => ?_) (fun _ => ?_) | refine brI (fun _ => ?_) (fun _ => ?_))
        refine loopR tabOk (fun σ w' q => ∃ j : Nat, σ = [(60, .int .i64 (j : Int)), (59, .int .i64 2), (58, .slice (some ⟨bo, 0, none⟩) 2 2), (54, .int .i64 ((0 : Nat) : Int)), (53, .int .i64 2), (52, .slice (some ⟨bpr, 0, none⟩) 2 2), (48, .int .i64 (k : Int)), (47, .int .i64 (N : Int)), (46, .slice (some ⟨b0, o0, none⟩) N c'), (14, .int .i64 1), (12, .int .i64 p), (1, .slice b m d), (0, .slice a n c)] ∧ q = 2 - j ∧ j ≤ 2 ∧ St w No w' [ownL 3 1 encI1 (.slice (some ⟨b0, o0, none⟩) N c') ports, blk bpr 3 [.int .i64 1, .int .i64 2], blk bo 4 [.bool false, .bool true]] ∧ (p ≤ 65535 → (0 < j → admitsL 1 p false xs = admitsL 1 p false ys) ∧ (1 < j → admitsL 1 p true xs = admitsL 1 p true ys)))
          (σ' := [(60, .int .i64 ((0 : Nat) : Int)), (59, .int .i64 2), (58, .slice (some ⟨bo, 0, none⟩) 2 2), (54, .int .i64 ((0 : Nat) : Int)), (53, .int .i64 2), (52, .slice (some ⟨bpr, 0, none⟩) 2 2), (48, .int .i64 (k : Int)), (47, .int .i64 (N : Int)), (46, .slice (some ⟨b0, o0, none⟩) N c'), (14, .int .i64 1), (12, .int .i64 p), (1, .slice b m d), (0, .slice a n c)]) (n := 2) ⟨rfl, rfl, rfl, rfl, rfl, rfl, rfl, rfl, rfl, rfl, rfl, rfl, rfl, trivial⟩ ⟨0, rfl, rfl, by omega, hS, fun _ => ⟨fun h => absurd h (by omega), fun h => absurd h (by omega)⟩⟩ ?_
        clear hS
        rintro _ w5 q ⟨j, rfl, rfl, hj2, hS, ho⟩
        have hj3 : j = 0 ∨ j = 1 ∨ j = 2 := by omega
        rcases hj3 with rfl | rfl | rfl
        · skip
          repeat' ((conv => whnf); first | refine RetC.mk ?_ | refine NzC.mk (by decide) ?_ | refine RngC.mk (by omega) (by omega) ?_ | refine IdxC.mk (by omega) (by omega) ?_ | refine hS.ld 2 rfl rfl ?_ | refine brD (fun _ => ?_) (fun _ => ?_) | refine brND (fun _ => ?_) (fun _ => ?_) | refine brN (fun _ => ?_) (fun _ => ?_) | refine brI (fun _ => ?_) (fun _ => ?_))
          · rename_i h6
            refine (admits_ok (hx.no hS.ext) 1 p false).mono ?_
            rintro v w6 ⟨rfl, hx'⟩
            replace hS := hS.no hx'
            clear hx'
            (conv => whnf)
            refine (admits_ok (hy.no hS.ext) 1 p false).mono ?_
            rintro v w7 ⟨rfl, hx'⟩
            replace hS := hS.no hx'
            clear hx'
            (conv => whnf)
            refine brN (fun h7 => ?_) (fun h7 => ?_)
            · repeat' ((conv => whnf); first | refine RetC.mk ?_ | refine NzC.mk (by decide) ?_ | refine RngC.mk (by omega) (by omega) ?_ | refine IdxC.mk (by omega) (by omega) ?_ | refine brD (fun _ => ?_) (fun _ => ?_) | refine brND (fun _ => ?_) (fun _ => ?_) | refine brN (fun _ => ?_) (fun _ => ?_) | refine brI (fun _ => ?_) (fun _ => ?_))
              refine ⟨⟨_, _, rfl, .inl ⟨rfl, rfl⟩, ?_⟩, hS.ext⟩
              simp only [Bool.false_eq_true, false_iff, not_and]
              intro _ _ hs
              have := hiff.2 hs p (List.mem_of_getElem? hpk) h6 1 (by omega) false
              simp [this] at h7
            · have h8 : admitsL 1 p false xs = admitsL 1 p false ys := by simpa using h7
              repeat' ((conv => whnf); first | refine RetC.mk ?_ | refine NzC.mk (by decide) ?_ | refine RngC.mk (by omega) (by omega) ?_ | refine IdxC.mk (by omega) (by omega) ?_ | refine brD (fun _ => ?_) (fun _ => ?_) | refine brND (fun _ => ?_) (fun _ => ?_) | refine brN (fun _ => ?_) (fun _ => ?_) | refine brI (fun _ => ?_) (fun _ => ?_))
              refine LoopE.mk ⟨_, [(60, .int .i64 ((0 + 1 : Nat) : Int)), (59, _), (58, _), (54, _), (53, _), (52, _), (48, _), (47, _), (46, _), (14, _), (12, _), (1, _), (0, _)], ?_, ⟨rfl, rfl, rfl, rfl, rfl, rfl, rfl, rfl, rfl, rfl, rfl, rfl, rfl, trivial⟩, ⟨0 + 1, rfl, rfl, by omega, hS, fun _ => ⟨fun _ => h8, fun h => absurd h (by omega)⟩⟩⟩
              omega
          · rename_i h6
            refine LoopE.mk ⟨_, [(60, .int .i64 ((0 + 1 : Nat) : Int)), (59, _), (58, _), (54, _), (53, _), (52, _), (48, _), (47, _), (46, _), (14, _), (12, _), (1, _), (0, _)], ?_, ⟨rfl, rfl, rfl, rfl, rfl, rfl, rfl, rfl, rfl, rfl, rfl, rfl, rfl, trivial⟩, ⟨0 + 1, rfl, rfl, by omega, hS, fun h => absurd h h6⟩⟩
            omega
        · skip
          repeat' ((conv => whnf); first | refine RetC.mk ?_ | refine NzC.mk (by decide) ?_ | refine RngC.mk (by omega) (by omega) ?_ | refine IdxC.mk (by omega) (by omega) ?_ | refine hS.ld 2 rfl rfl ?_ | refine brD (fun _ => ?_) (fun _ => ?_) | refine brND (fun _ => ?_) (fun _ => ?_) | refine brN (fun _ => ?_) (fun _ => ?_) | refine brI (fun _ => ?_) (fun _ => ?_))
          · rename_i h6
            refine (admits_ok (hx.no hS.ext) 1 p true).mono ?_
            rintro v w6 ⟨rfl, hx'⟩
            replace hS := hS.no hx'
            clear hx'
            (conv => whnf)
            refine (admits_ok (hy.no hS.ext) 1 p true).mono ?_
            rintro v w7 ⟨rfl, hx'⟩
            replace hS := hS.no hx'
            clear hx'
            (conv => whnf)
            refine brN (fun h7 => ?_) (fun h7 => ?_)
            · repeat' ((conv => whnf); first | refine RetC.mk ?_ | refine NzC.mk (by decide) ?_ | refine RngC.mk (by omega) (by omega) ?_ | refine IdxC.mk (by omega) (by omega) ?_ | refine brD (fun _ => ?_) (fun _ => ?_) | refine brND (fun _ => ?_) (fun _ => ?_) | refine brN (fun _ => ?_) (fun _ => ?_) | refine brI (fun _ => ?_) (fun _ => ?_))
              refine ⟨⟨_, _, rfl, .inl ⟨rfl, rfl⟩, ?_⟩, hS.ext⟩
              simp only [Bool.false_eq_true, false_iff, not_and]
              intro _ _ hs
              have := hiff.2 hs p (List.mem_of_getElem? hpk) h6 1 (by omega) true
              simp [this] at h7
            · have h8 : admitsL 1 p true xs = admitsL 1 p true ys := by simpa using h7
              repeat' ((conv => whnf); first | refine RetC.mk ?_ | refine NzC.mk (by decide) ?_ | refine RngC.mk (by omega) (by omega) ?_ | refine IdxC.mk (by omega) (by omega) ?_ | refine brD (fun _ => ?_) (fun _ => ?_) | refine brND (fun _ => ?_) (fun _ => ?_) | refine brN (fun _ => ?_) (fun _ => ?_) | refine brI (fun _ => ?_) (fun _ => ?_))
              refine LoopE.mk ⟨_, [(60, .int .i64 ((1 + 1 : Nat) : Int)), (59, _), (58, _), (54, _), (53, _), (52, _), (48, _), (47, _), (46, _), (14, _), (12, _), (1, _), (0, _)], ?_, ⟨rfl, rfl, rfl, rfl, rfl, rfl, rfl, rfl, rfl, rfl, rfl, rfl, rfl, trivial⟩, ⟨1 + 1, rfl, rfl, by omega, hS, fun h => ⟨fun _ => (ho h).1 (by omega), fun _ => h8⟩⟩⟩
              omega
          · rename_i h6
            refine LoopE.mk ⟨_, [(60, .int .i64 ((1 + 1 : Nat) : Int)), (59, _), (58, _), (54, _), (53, _), (52, _), (48, _), (47, _), (46, _), (14, _), (12, _), (1, _), (0, _)], ?_, ⟨rfl, rfl, rfl, rfl, rfl, rfl, rfl, rfl, rfl, rfl, rfl, rfl, rfl, trivial⟩, ⟨1 + 1, rfl, rfl, by omega, hS, fun h => absurd h h6⟩⟩
            omega
        · repeat' ((conv => whnf); first | refine RetC.mk ?_ | refine NzC.mk (by decide) ?_ | refine RngC.mk (by omega) (by omega) ?_ | refine IdxC.mk (by omega) (by omega) ?_ | refine brD (fun _ => ?_) (fun _ => ?_) | refine brND (fun _ => ?_) (fun _ => ?_) | refine brN (fun _ => ?_) (fun _ => ?_) | refine brI (fun _ => ?_) (fun _ => ?_))
          refine LoopE.mk ⟨_, [(54, .int .i64 ((0 + 1 : Nat) : Int)), (53, _), (52, _), (48, _), (47, _), (46, _), (12, _), (1, _), (0, _)], ?_, ⟨rfl, rfl, rfl, rfl, rfl, rfl, rfl, rfl, rfl, trivial⟩, ⟨0 + 1, rfl, rfl, by omega, hS.keep 2, fun h => ⟨fun _ out => by cases out; exact (ho h).1 (by omega); exact (ho h).2 (by omega), fun h => absurd h (by omega)⟩⟩⟩
          omega
      · skip
        repeat' ((conv => whnf); first | refine RetC.mk ?_ | refine NzC.mk (by decide) ?_ | refine RngC.mk (by omega) (by omega) ?_ | refine IdxC.mk (by omega) (by omega) ?_ | refine hS.ld 1 rfl rfl ?_ | refine hS.lit (cs := [.bool false, .bool true]) Tryd.underlying93 (sz := 1) (by kernel_rfl) (z := .bool false) (by kernel_rfl) rfl rfl (by rfl) (fun bo w' hbo hS => ?_) | refine brD (fun _ => ?_) (fun _ => ?_) | refine brND (fun _ => ?_) (fun _ => ?_) | refine brN (fun _ => ?_) (fun _ => ?_) | refine brI (fun _ => ?_) (fun _ => ?_))
        refine loopR tabOk (fun σ w' q => ∃ j : Nat, σ = [(60, .int .i64 (j : Int)), (59, .int .i64 2), (58, .slice (some ⟨bo, 0, none⟩) 2 2), (54, .int .i64 ((1 : Nat) : Int)), (53, .int .i64 2), (52, .slice (some ⟨bpr, 0, none⟩) 2 2), (48, .int .i64 (k : Int)), (47, .int .i64 (N : Int)), (46, .slice (some ⟨b0, o0, none⟩) N c'), (14, .int .i64 2), (12, .int .i64 p), (1, .slice b m d), (0, .slice a n c)] ∧ q = 2 - j ∧ j ≤ 2 ∧ St w No w' [ownL 3 1 encI1 (.slice (some ⟨b0, o0, none⟩) N c') ports, blk bpr 3 [.int .i64 1, .int .i64 2], blk bo 4 [.bool false, .bool true]] ∧ (p ≤ 65535 → (0 < j → admitsL 2 p false xs = admitsL 2 p false ys) ∧ (1 < j → admitsL 2 p true xs = admitsL 2 p true ys)))
          (σ' := [(60, .int .i64 ((0 : Nat) : Int)), (59, .int .i64 2), (58, .slice (some ⟨bo, 0, none⟩) 2 2), (54, .int .i64 ((1 : Nat) : Int)), (53, .int .i64 2), (52, .slice (some ⟨bpr, 0, none⟩) 2 2), (48, .int .i64 (k : Int)), (47, .int .i64 (N : Int)), (46, .slice (some ⟨b0, o0, none⟩) N c'), (14, .int .i64 2), (12, .int .i64 p), (1, .slice b m d), (0, .slice a n c)]) (n := 2) ⟨rfl, rfl, rfl, rfl, rfl, rfl, rfl, rfl, rfl, rfl, rfl, rfl, rfl, trivial⟩ ⟨0, rfl, rfl, by omega, hS, fun _ => ⟨fun h => absurd h (by omega), fun h => absurd h (by omega)⟩⟩ ?_
        clear hS
        rintro _ w5 q ⟨j, rfl, rfl, hj2, hS, ho⟩
        have hj3 : j = 0 ∨ j = 1 ∨ j = 2 := by omega
        rcases hj3 with rfl | rfl | rfl
        · skip
          repeat' ((conv => whnf); first | refine RetC.mk ?_ | refine NzC.mk (by decide) ?_ | refine RngC.mk (by omega) (by omega) ?_ | refine IdxC.mk (by omega) (by omega) ?_ | refine hS.ld 2 rfl rfl ?_ | refine brD (fun _ => ?_) (fun _ => ?_) | refine brND (fun _ => ?_) (fun _ => ?_) | refine brN (fun _ => ?_) (fun _ => ?_) | refine brI (fun _ => ?_) (fun _ => ?_))
          · rename_i h6
            refine (admits_ok (hx.no hS.ext) 2 p false).mono ?_
            rintro v w6 ⟨rfl, hx'⟩
            replace hS := hS.no hx'
            clear hx'
            (conv => whnf)
            refine (admits_ok (hy.no hS.ext) 2 p false).mono ?_
            rintro v w7 ⟨rfl, hx'⟩
            replace hS := hS.no hx'
            clear hx'
            (conv => whnf)
            refine brN (fun h7 => ?_) (fun h7 => ?_)
            · repeat' ((conv => whnf); first | refine RetC.mk ?_ | refine NzC.mk (by decide) ?_ | refine RngC.mk (by omega) (by omega) ?_ | refine IdxC.mk (by omega) (by omega) ?_ | refine brD (fun _ => ?_) (fun _ => ?_) | refine brND (fun _ => ?_) (fun _ => ?_) | refine brN (fun _ => ?_) (fun _ => ?_) | refine brI (fun _ => ?_) (fun _ => ?_))
              refine ⟨⟨_, _, rfl, .inl ⟨rfl, rfl⟩, ?_⟩, hS.ext⟩
              simp only [Bool.false_eq_true, false_iff, not_and]
              intro _ _ hs
              have := hiff.2 hs p (List.mem_of_getElem? hpk) h6 2 (by omega) false
              simp [this] at h7
            · have h8 : admitsL 2 p false xs = admitsL 2 p false ys := by simpa using h7
              repeat' ((conv => whnf); first | refine RetC.mk ?_ | refine NzC.mk (by decide) ?_ | refine RngC.mk (by omega) (by omega) ?_ | refine IdxC.mk (by omega) (by omega) ?_ | refine brD (fun _ => ?_) (fun _ => ?_) | refine brND (fun _ => ?_) (fun _ => ?_) | refine brN (fun _ => ?_) (fun _ => ?_) | refine brI (fun _ => ?_) (fun _ => ?_))
              refine LoopE.mk ⟨_, [(60, .int .i64 ((0 + 1 : Nat) : Int)), (59, _), (58, _), (54, _), (53, _), (52, _), (48, _), (47, _), (46, _), (14, _), (12, _), (1, _), (0, _)], ?_, ⟨rfl, rfl, rfl, rfl, rfl, rfl, rfl, rfl, rfl, rfl, rfl, rfl, rfl, trivial⟩, ⟨0 + 1, rfl, rfl, by omega, hS, fun _ => ⟨fun _ => h8, fun h => absurd h (by omega)⟩⟩⟩
              omega
          · rename_i h6
            refine LoopE.mk ⟨_, [(60, .int .i64 ((0 + 1 : Nat) : Int)), (59, _), (58, _), (54, _), (53, _), (52, _), (48, _), (47, _), (46, _), (14, _), (12, _), (1, _), (0, _)], ?_, ⟨rfl, rfl, rfl, rfl, rfl, rfl, rfl, rfl, rfl, rfl, rfl, rfl, rfl, trivial⟩, ⟨0 + 1, rfl, rfl, by omega, hS, fun h => absurd h h6⟩⟩
            omega
        · skip
          repeat' ((conv => whnf); first | refine RetC.mk ?_ | refine NzC.mk (by decide) ?_ | refine RngC.mk (by omega) (by omega) ?_ | refine IdxC.mk (by omega) (by omega) ?_ | refine hS.ld 2 rfl rfl ?_ | refine brD (fun _ => ?_) (fun _ => ?_) | refine brND (fun _ => ?_) (fun _ => ?_) | refine brN (fun _ => ?_) (fun _ => ?_) | refine brI (fun _ => ?_) (fun _ => ?_))
          · rename_i h6
            refine (admits_ok (hx.no hS.ext) 2 p true).mono ?_
            rintro v w6 ⟨rfl, hx'⟩
            replace hS := hS.no hx'
            clear hx'
            (conv => whnf)
            refine (admits_ok (hy.no hS.ext) 2 p true).mono ?_
            rintro v w7 ⟨rfl, hx'⟩
            replace hS := hS.no hx'
            clear hx'
            (conv => whnf)
            refine brN (fun h7 => ?_) (fun h7 => ?_)
            · repeat' ((conv => whnf); first | refine RetC.mk ?_ | refine NzC.mk (by decide) ?_ | refine RngC.mk (by omega) (by omega) ?_ | refine IdxC.mk (by omega) (by omega) ?_ | refine brD (fun _ => ?_) (fun _ => ?_) | refine brND (fun _ => ?_) (fun _ => ?_) | refine brN (fun _ => ?_) (fun _ => ?_) | refine brI (fun _ => ?_) (fun _ => ?_))
              refine ⟨⟨_, _, rfl, .inl ⟨rfl, rfl⟩, ?_⟩, hS.ext⟩
              simp only [Bool.false_eq_true, false_iff, not_and]
              intro _ _ hs
              have := hiff.2 hs p (List.mem_of_getElem? hpk) h6 2 (by omega) true
              simp [this] at h7
            · have h8 : admitsL 2 p true xs = admitsL 2 p true ys := by simpa using h7
              repeat' ((conv => whnf); first | refine RetC.mk ?_ | refine NzC.mk (by decide) ?_ | refine RngC.mk (by omega) (by omega) ?_ | refine IdxC.mk (by omega) (by omega) ?_ | refine brD (fun _ => ?_) (fun _ => ?_) | refine brND (fun _ => ?_) (fun _ => ?_) | refine brN (fun _ => ?_) (fun _ => ?_) | refine brI (fun _ => ?_) (fun _ => ?_))
              refine LoopE.mk ⟨_, [(60, .int .i64 ((1 + 1 : Nat) : Int)), (59, _), (58, _), (54, _), (53, _), (52, _), (48, _), (47, _), (46, _), (14, _), (12, _), (1, _), (0, _)], ?_, ⟨rfl, rfl, rfl, rfl, rfl, rfl, rfl, rfl, rfl, rfl, rfl, rfl, rfl, trivial⟩, ⟨1 + 1, rfl, rfl, by omega, hS, fun h => ⟨fun _ => (ho h).1 (by omega), fun _ => h8⟩⟩⟩
              omega
          · rename_i h6
            refine LoopE.mk ⟨_, [(60, .int .i64 ((1 + 1 : Nat) : Int)), (59, _), (58, _), (54, _), (53, _), (52, _), (48, _), (47, _), (46, _), (14, _), (12, _), (1, _), (0, _)], ?_, ⟨rfl, rfl, rfl, rfl, rfl, rfl, rfl, rfl, rfl, rfl, rfl, rfl, rfl, trivial⟩, ⟨1 + 1, rfl, rfl, by omega, hS, fun h => absurd h h6⟩⟩
            omega
        · repeat' ((conv => whnf); first | refine RetC.mk ?_ | refine NzC.mk (by decide) ?_ | refine RngC.mk (by omega) (by omega) ?_ | refine IdxC.mk (by omega) (by omega) ?_ | refine brD (fun _ => ?_) (fun _ => ?_) | refine brND (fun _ => ?_) (fun _ => ?_) | refine brN (fun _ => ?_) (fun _ => ?_) | refine brI (fun _ => ?_) (fun _ => ?_))
          refine LoopE.mk ⟨_, [(54, .int .i64 ((1 + 1 : Nat) : Int)), (53, _), (52, _), (48, _), (47, _), (46, _), (12, _), (1, _), (0, _)], ?_, ⟨rfl, rfl, rfl, rfl, rfl, rfl, rfl, rfl, rfl, trivial⟩, ⟨1 + 1, rfl, rfl, by omega, hS.keep 2, fun h => ⟨fun _ => (hpr h).1 (by omega), fun _ out => by cases out; exact (ho h).1 (by omega); exact (ho h).2 (by omega)⟩⟩⟩
          omega
      · repeat' ((conv => whnf); first | refine RetC.mk ?_ | refine NzC.mk (by decide) ?_ | refine RngC.mk (by omega) (by omega) ?_ | refine IdxC.mk (by omega) (by omega) ?_ | refine brD (fun _ => ?_) (fun _ => ?_) | refine brND (fun _ => ?_) (fun _ => ?_) | refine brN (fun _ => ?_) (fun _ => ?_) | refine brI (fun _ => ?_) (fun _ => ?_))
        refine LoopE.mk ⟨_, [(48, .int .i64 ((k + 1 : Nat) : Int)), (47, _), (46, _), (1, _), (0, _)], ?_, ⟨rfl, rfl, rfl, rfl, rfl, trivial⟩, ⟨k + 1, rfl, rfl, by omega, hS.keep 1, fun j p' hj hp' hle => ?_⟩⟩
        · omega
        · by_cases hjk : j = k
          · subst hjk
            obtain rfl := Option.some.inj (hpk.symm.trans hp')
            rintro proto (rfl | rfl) out
            · exact (hpr hle).1 (by omega) out
            · exact (hpr hle).2 (by omega) out
          · exact hi j p' (by omega) hp' hle
    · repeat' ((conv => whnf); first | refine RetC.mk ?_ | refine NzC.mk (by decide) ?_ | refine RngC.mk (by omega) (by omega) ?_ | refine IdxC.mk (by omega) (by omega) ?_ | refine brD (fun _ => ?_) (fun _ => ?_) | refine brND (fun _ => ?_) (fun _ => ?_) | refine brN (fun _ => ?_) (fun _ => ?_) | refine brI (fun _ => ?_) (fun _ => ?_))
      obtain rfl : k = N := by omega
      refine ⟨⟨_, _, rfl, .inl ⟨rfl, rfl⟩, ?_⟩, hS.ext⟩
      simp only [true_iff]
      refine ⟨hgx, hgy, hiff.1 fun p hp => ?_⟩
      obtain ⟨j, hj⟩ := List.mem_iff_getElem?.1 hp
      exact hi j p (by have := (List.getElem?_eq_some_iff.1 hj).1; omega) hj

/-! ### The reference's answer -/
def portsS (l : List RuleS) : List Int := 1 :: 65535 :: l.flatMap fun r => [r.low - 1, r.low, r.top, r.top + 1]
theorem portsS_step {l : List RuleS} {k : Nat} {r : RuleS} (h : l[k]? = some r) : portsS (l.take (k + 1)) = portsS (l.take k) ++ [r.low - 1, r.low, r.top, r.top + 1] := by
  unfold portsS
  rw [List.take_add_one, h, List.flatMap_append]
  simp
theorem portsS_len (l : List RuleS) : (portsS l).length = 4 * l.length + 2 := by
  unfold portsS
  induction l with
  | nil => rfl
  | cons x l ih => simp only [List.flatMap_cons, List.length_cons, List.length_append, List.length_nil] at ih ⊢; omega
theorem same_iffS {xs ys : List RuleS} (hx : ∀ r ∈ xs, r.bad = false) (hy : ∀ r ∈ ys, r.bad = false) : (∀ p ∈ portsS (xs ++ ys), 1 ≤ p → p ≤ 65535 → okAt xs ys p) ↔ SameL xs ys := by
  constructor
  · intro h
    refine (same_iff hx hy).1 fun p hp hle => h p ?_ (portsR_pos (fun r hr => (List.mem_append.1 hr).elim (hx r) (hy r)) hp) hle
    rcases portsR_mem.1 hp with rfl | ⟨r, hr, h⟩
    · simp [portsS]
    · unfold portsS
      refine List.mem_cons_of_mem _ (List.mem_cons_of_mem _ (List.mem_flatMap.2 ⟨r, hr, ?_⟩))
      rcases h with rfl | rfl <;> simp
  · exact fun h p _ h1 h2 => h p h1 h2
theorem sameOf_ok (hx : Slc w 5 encRule G a n xs) (hy : Slc w 5 encRule G' b m ys) (hgx : GoodR xs) (hgy : GoodR ys) :
    CallC Tryd.prog 20 #[.slice a n c, .slice b m d] w fun v w' => (∃ s, v = .bool s ∧ (s = true ↔ SameL xs ys)) ∧ Ext No w w' := by
  have hl := hx.len
  have hl2 := hy.len
  have hn := hgx.1
  have hm := hgy.1
  have hlen : (xs ++ ys).length = n + m := by simp [hl, hl2]
  refine fn_intro tabOk Tryd.func20 (by kernel_rfl) rfl Tryd.ntmps20 (Nat.le_of_ble_eq_true rfl) ?_
  have hS := St.start w No
  have hS := hS.add (ownL_local (e := 24) (enc := encRule) (sz := 5) (v := .slice none 0 0) (xs := [])) (own_nil _ _ _) (by simp [ownL, own, Value.ownBlock]) (by simp [ownL, own, Value.ownBlock])
  have hS := hS.add (ownL_local (e := 3) (enc := encI1) (sz := 1) (v := .slice none 0 0) (xs := [])) (own_nil _ _ _) (by simp [ownL, own, Value.ownBlock]) (by simp [ownL, own, Value.ownBlock])
  (conv => whnf)
  refine hS.appS codRule 0 Tryd.underlying22 (bytes := 32) (by kernel_rfl) (z := .agg (encRule noRule).toArray) (by kernel_rfl) rfl rfl (hx.no hS.ext) (by unfold maxLen; simp; omega) (by simp; omega) (fun a2 c2 w' hS => ?_)
  rw [show ([] : List RuleS).length + n = n by simp, List.nil_append] at hS
  rw [show ([] : List RuleS).length + n = n by simp]
  replace hS : St w No w' [ownL 24 5 encRule (.slice a2 n c2) xs, ownL 3 1 encI1 (.slice none 0 0) []] := hS
  (conv => whnf)
  refine hS.appS codRule 0 Tryd.underlying22 (bytes := 32) (by kernel_rfl) (z := .agg (encRule noRule).toArray) (by kernel_rfl) rfl rfl (hy.no hS.ext) (by unfold maxLen; omega) (by omega) (fun a3 c3 w' hS => ?_)
  rw [hl] at hS ⊢
  (conv => whnf)
  refine hS.lit (cs := [.int .i64 1, .int .i64 65535]) Tryd.underlying48 (sz := 1) (by kernel_rfl) (z := .int .i64 0) (by kernel_rfl) rfl rfl (by rfl) (fun bl w' hbl hS => ?_)
  (conv => whnf)
  refine hS.appS codI1 1 (ys := [1, 65535]) (G := fun _ => True) Tryd.underlying48 (bytes := 8) (by kernel_rfl) (z := .int .i64 0) (by kernel_rfl) rfl rfl (Slc.of_blk codI1 (hS.blk 2 rfl) rfl (by decide) (fun _ _ => trivial) rfl) (by unfold maxLen; decide) (by decide) (fun a4 c4 w' hS => ?_)
  replace hS : St w No w' [ownL 24 5 encRule (.slice a3 (n + m) c3) (xs ++ ys), ownL 3 1 encI1 (.slice a4 2 c4) (portsS ((xs ++ ys).take 0))] := hS.keep 2
  (conv => whnf)
  refine loopR tabOk (fun σ w' q => ∃ (k : Nat) (a' : Option Addr) (c' : Nat), σ = [(7, .int .i64 (k : Int)), (6, .slice a3 (n + m) c3), (5, .slice a' (4 * k + 2) c'), (1, .slice b m d), (0, .slice a n c)] ∧ q = n + m - k ∧ k ≤ n + m ∧ St w No w' [ownL 24 5 encRule (.slice a3 (n + m) c3) (xs ++ ys), ownL 3 1 encI1 (.slice a' (4 * k + 2) c') (portsS ((xs ++ ys).take k))])
    (σ' := [(7, .int .i64 ((0 : Nat) : Int)), (6, .slice a3 (n + m) c3), (5, .slice a4 2 c4), (1, .slice b m d), (0, .slice a n c)]) (n := n + m) ⟨rfl, rfl, rfl, rfl, rfl, trivial⟩ ⟨0, _, _, rfl, rfl, Nat.zero_le _, hS⟩ ?_
  clear hS
  rintro _ w3 q ⟨k, a', c', rfl, rfl, hk, hS⟩
  have hz := ownL_slc (G := fun _ => True) codRule (hS.get 0 rfl) fun _ _ => trivial
  (conv => whnf)
  refine brD (fun h3 => ?_) (fun h3 => ?_)
  · obtain ⟨b0, o0, r, hrk, _, rfl, _, hc⟩ := hz.at (k := k) (by omega)
    have hst := portsS_step hrk
    have hpl := portsS_len ((xs ++ ys).take k)
    rw [List.length_take, hlen, Nat.min_eq_left hk] at hpl
    have hbr : ¬ (r.proto < 0 ∨ r.proto > 2 ∨ r.low < 1 ∨ r.low > r.top ∨ r.top > 65535) := of_decide_eq_false ((List.mem_append.1 (List.mem_of_getElem? hrk)).elim (hgx.2 r) (hgy.2 r))
    obtain rfl : o0 = 0 := ownL_off (hS.get 0 rfl)
    have nT : ¬ (Value.slice a' (4 * k + 2) c').ownBlock = some b0 := fun h => hS.apartAt 0 1 rfl rfl (by decide) b0 (by simp [ownL, own, Value.ownBlock]) (by simp [ownL, own, h])
    (conv => whnf)
    (refine drawS tabOk mixed [] (fun q => (Value.slice a' (4 * k + 2) c').ownBlock = some q) [0, 1, 2, 3, 4, 5, 6, 7, 8, 9, 10, 11, 12, 13, 14, 15, 16, 17, 18, 19, 20, 21, 22, 23, 24, 25] (by kernel_rfl) ?_; rintro w1 rfl; replace hS := hS.drew)
    repeat' ((conv => whnf); first | refine RetC.mk ?_ | refine NzC.mk (by decide) ?_ | refine RngC.mk (by omega) (by omega) ?_ | refine IdxC.mk (by omega) (by omega) ?_ | refine LdF.mk ⟨_, fun w' hw => hw.cell (hc.one 3 rfl) nT, ?_⟩ | refine LdF.mk ⟨_, fun w' hw => hw.cell (hc.one 4 rfl) nT, ?_⟩ | refine brD (fun _ => ?_) (fun _ => ?_) | refine brND (fun _ => ?_) (fun _ => ?_) | refine brN (fun _ => ?_) (fun _ => ?_) | refine brI (fun _ => ?_) (fun _ => ?_))
    refine hS.litX (cs := [.int .i64 (r.low - 1), .int .i64 r.low, .int .i64 r.top, .int .i64 (r.top + 1)]) Tryd.underlying48 (sz := 1) (by kernel_rfl) (z := .int .i64 0) (by kernel_rfl) rfl rfl (by rfl) (fun bl w' hbl hx1 hS => ?_)
    refine KeepC.mk hx1.of_no ?_
    (conv => whnf)
    refine hS.appX codI1 1 (ys := [r.low - 1, r.low, r.top, r.top + 1]) (G := fun _ => True) Tryd.underlying48 (bytes := 8) (by kernel_rfl) (z := .int .i64 0) (by kernel_rfl) rfl rfl (Slc.of_blk codI1 (hS.blk 2 rfl) rfl (by decide) (fun _ _ => trivial) rfl) (by rw [hpl]; unfold maxLen; omega) (by rw [hpl]; omega) (fun a5 c5 w' hx2 hS => ?_)
    refine KeepC.mk (hx1.of_no.trans hx2) ?_
    rw [← hst, hpl] at hS
    rw [hpl]
    repeat' ((conv => whnf); first | refine RetC.mk ?_ | refine NzC.mk (by decide) ?_ | refine RngC.mk (by omega) (by omega) ?_ | refine IdxC.mk (by omega) (by omega) ?_ | refine brD (fun _ => ?_) (fun _ => ?_) | refine brND (fun _ => ?_) (fun _ => ?_) | refine brN (fun _ => ?_) (fun _ => ?_) | refine brI (fun _ => ?_) (fun _ => ?_))
    refine LoopE.mk ⟨_, [(7, .int .i64 ((k + 1 : Nat) : Int)), (6, _), (5, .slice a5 (4 * (k + 1) + 2) c5), (1, _), (0, _)], ?_, ⟨rfl, rfl, by show some (Value.slice a5 (4 * k + 2 + 4) c5) = some (Value.slice a5 (4 * (k + 1) + 2) c5); congr 2, rfl, rfl, trivial⟩, ⟨k + 1, a5, c5, rfl, rfl, by omega, ?_⟩⟩
    · omega
    · rw [show 4 * (k + 1) + 2 = 4 * k + 2 + 4 by omega]
      exact hS.keep 2
  · obtain rfl : k = n + m := by omega
    rw [List.take_of_length_le (by omega)] at hS
    have hpl := portsS_len (xs ++ ys)
    rw [hlen] at hpl
    have hiff := same_iffS (fun r hr => hgx.2 r hr) (fun r hr => hgy.2 r hr)
    generalize portsS (xs ++ ys) = ports at hS hpl hiff
    have hN : 4 * (n + m) + 2 ≤ 200 := by omega
    generalize 4 * (n + m) + 2 = N at hS hpl hN
    replace hS : St w No w3 [ownL 3 1 encI1 (.slice a' N c') ports] := hS.sel [1] (by decide)
    (conv => whnf)
    refine loopR tabOk (fun σ w' q => ∃ k : Nat, σ = [(8, .int .i64 (k : Int)), (5, .slice a' N c'), (1, .slice b m d), (0, .slice a n c)] ∧ q = N - k ∧ k ≤ N ∧ St w No w' [ownL 3 1 encI1 (.slice a' N c') ports] ∧ ∀ (j : Nat) p, j < k → ports[j]? = some p → 1 ≤ p → p ≤ 65535 → okAt xs ys p)
      (σ' := [(8, .int .i64 ((0 : Nat) : Int)), (5, .slice a' N c'), (1, .slice b m d), (0, .slice a n c)]) (n := N) ⟨rfl, rfl, rfl, rfl, trivial⟩ ⟨0, rfl, rfl, Nat.zero_le _, hS, fun j p hj => by omega⟩ ?_
    clear hS
    rintro _ w1 q ⟨k, rfl, rfl, hk, hS, hi⟩
    have hz := ownL_slc (G := fun _ => True) codI1 (hS.get 0 rfl) fun _ _ => trivial
    (conv => whnf)
    refine brD (fun h4 => ?_) (fun h4 => ?_)
    · obtain ⟨b0, o0, p, hpk, _, rfl, _, hc⟩ := hz.at (k := k) (by omega)
      have next : (1 ≤ p → p ≤ 65535 → okAt xs ys p) → ∀ (j : Nat) p', j < k + 1 → ports[j]? = some p' → 1 ≤ p' → p' ≤ 65535 → okAt xs ys p' := fun h j p' hj hp' => by
        by_cases hjk : j = k
        · subst hjk
          obtain rfl := Option.some.inj (hpk.symm.trans hp')
          exact h
        · exact hi j p' (by omega) hp'
      repeat' ((conv => whnf); first | refine RetC.mk ?_ | refine NzC.mk (by decide) ?_ | refine RngC.mk (by omega) (by omega) ?_ | refine IdxC.mk (by omega) (by omega) ?_ | refine LdC.mk ⟨.int .i64 p, by simpa using hc.one 0 rfl, ?_⟩ | refine brD (fun _ => ?_) (fun _ => ?_) | refine brND (fun _ => ?_) (fun _ => ?_) | refine brN (fun _ => ?_) (fun _ => ?_) | refine brI (fun _ => ?_) (fun _ => ?_))
      · refine LoopE.mk ⟨_, [(8, .int .i64 ((k + 1 : Nat) : Int)), (5, _), (1, _), (0, _)], ?_, ⟨rfl, rfl, rfl, rfl, trivial⟩, ⟨k + 1, rfl, rfl, by omega, hS, next fun h => by omega⟩⟩
        omega
      · refine LoopE.mk ⟨_, [(8, .int .i64 ((k + 1 : Nat) : Int)), (5, _), (1, _), (0, _)], ?_, ⟨rfl, rfl, rfl, rfl, trivial⟩, ⟨k + 1, rfl, rfl, by omega, hS, next fun _ h => by omega⟩⟩
        omega
      · rename_i hp1 hp2
        (conv => whnf)
        refine loopR tabOk (fun σ w' q => ∃ i : Nat, σ = [(9, .int .i64 (i : Int)), (8, .int .i64 (k : Int)), (5, .slice (some ⟨b0, o0, none⟩) N c'), (1, .slice b m d), (0, .slice a n c)] ∧ q = 4 - i ∧ i ≤ 4 ∧ St w No w' [ownL 3 1 encI1 (.slice (some ⟨b0, o0, none⟩) N c') ports] ∧ (0 < i → admitsL 1 p false xs = admitsL 1 p false ys) ∧ (1 < i → admitsL 2 p false xs = admitsL 2 p false ys) ∧ (2 < i → admitsL 1 p true xs = admitsL 1 p true ys) ∧ (3 < i → admitsL 2 p true xs = admitsL 2 p true ys))
          (σ' := [(9, .int .i64 ((0 : Nat) : Int)), (8, .int .i64 (k : Int)), (5, .slice (some ⟨b0, o0, none⟩) N c'), (1, .slice b m d), (0, .slice a n c)]) (n := 4) ⟨rfl, rfl, rfl, rfl, rfl, trivial⟩ ⟨0, rfl, rfl, by omega, hS, fun h => by omega, fun h => by omega, fun h => by omega, fun h => by omega⟩ ?_
        clear hS
        rintro _ w4 q ⟨i, rfl, rfl, hi2, hS, f1, f2, f3, f4⟩
        have hz2 := ownL_slc (G := fun _ => True) codI1 (hS.get 0 rfl) fun _ _ => trivial
        obtain ⟨b1, o1, p1, hpk1, _, hb1, _, hc2⟩ := hz2.at (k := k) (by omega)
        obtain ⟨rfl, rfl⟩ : b0 = b1 ∧ o0 = o1 := by simpa using hb1
        obtain rfl := Option.some.inj (hpk.symm.trans hpk1)
        have hi3 : i = 0 ∨ i = 1 ∨ i = 2 ∨ i = 3 ∨ i = 4 := by omega
        rcases hi3 with rfl | rfl | rfl | rfl | rfl
        · skip
          have e1 : (1 : Int) + ((0 : Nat) : Int).tmod 2 = 1 := by decide
          have e2 : decide (((0 : Nat) : Int) > 1) = false := by decide
          (conv => whnf)
          refine NzC.mk (by decide) ?_
          (conv => whnf)
          refine RngC.mk (by decide) (by decide) ?_
          rw [e1]
          (conv => whnf)
          (refine drawS tabOk mixed [] (No) [0, 1, 2, 3, 4, 5, 6, 7, 9, 10, 11, 12, 13, 14, 15, 16, 8, 17, 18] (by kernel_rfl) ?_; rintro w1 rfl; replace hS := hS.drew)
          repeat' ((conv => whnf); first | refine RetC.mk ?_ | refine NzC.mk (by decide) ?_ | refine RngC.mk (by omega) (by omega) ?_ | refine IdxC.mk (by omega) (by omega) ?_ | refine LdF.mk ⟨.int .i64 p, fun w' hw => hw.cell (by simpa using hc2.one 0 rfl) id, ?_⟩ | refine brD (fun _ => ?_) (fun _ => ?_) | refine brND (fun _ => ?_) (fun _ => ?_) | refine brN (fun _ => ?_) (fun _ => ?_) | refine brI (fun _ => ?_) (fun _ => ?_))
          refine (admitsOf_ok (hx.no hS.ext) 1 p _).mono ?_
          rintro v w6 ⟨rfl, hx1⟩
          replace hS := hS.no hx1
          refine KeepC.mk hx1 ?_
          (conv => whnf)
          refine (admitsOf_ok (hy.no hS.ext) 1 p _).mono ?_
          rintro v w7 ⟨rfl, hx2⟩
          replace hS := hS.no hx2
          refine KeepC.mk (hx1.trans hx2) ?_
          clear hx1 hx2
          rw [e2]
          (conv => whnf)
          refine brN (fun h7 => ?_) (fun h7 => ?_)
          · repeat' ((conv => whnf); first | refine RetC.mk ?_ | refine NzC.mk (by decide) ?_ | refine RngC.mk (by omega) (by omega) ?_ | refine IdxC.mk (by omega) (by omega) ?_ | refine brD (fun _ => ?_) (fun _ => ?_) | refine brND (fun _ => ?_) (fun _ => ?_) | refine brN (fun _ => ?_) (fun _ => ?_) | refine brI (fun _ => ?_) (fun _ => ?_))
            refine ⟨⟨_, rfl, ?_⟩, hS.ext⟩
            simp only [Bool.false_eq_true, false_iff]
            intro hs
            have := hiff.2 hs p (List.mem_of_getElem? hpk) (by omega) (by omega) 1 (by omega) false
            simp [this] at h7
          · have h8 : admitsL 1 p false xs = admitsL 1 p false ys := by simpa using h7
            repeat' ((conv => whnf); first | refine RetC.mk ?_ | refine NzC.mk (by decide) ?_ | refine RngC.mk (by omega) (by omega) ?_ | refine IdxC.mk (by omega) (by omega) ?_ | refine brD (fun _ => ?_) (fun _ => ?_) | refine brND (fun _ => ?_) (fun _ => ?_) | refine brN (fun _ => ?_) (fun _ => ?_) | refine brI (fun _ => ?_) (fun _ => ?_))
            refine LoopE.mk ⟨_, [(9, .int .i64 ((0 + 1 : Nat) : Int)), (8, _), (5, _), (1, _), (0, _)], ?_, ⟨rfl, rfl, rfl, rfl, rfl, trivial⟩, ⟨0 + 1, rfl, rfl, by omega, hS, ⟨fun _ => h8, fun h => by omega, fun h => by omega, fun h => by omega⟩⟩⟩
            omega
        · skip
          have e1 : (1 : Int) + ((1 : Nat) : Int).tmod 2 = 2 := by decide
          have e2 : decide (((1 : Nat) : Int) > 1) = false := by decide
          (conv => whnf)
          refine NzC.mk (by decide) ?_
          (conv => whnf)
          refine RngC.mk (by decide) (by decide) ?_
          rw [e1]
          (conv => whnf)
          (refine drawS tabOk mixed [] (No) [0, 1, 2, 3, 4, 5, 6, 7, 9, 10, 11, 12, 13, 14, 15, 16, 8, 17, 18] (by kernel_rfl) ?_; rintro w1 rfl; replace hS := hS.drew)
          repeat' ((conv => whnf); first | refine RetC.mk ?_ | refine NzC.mk (by decide) ?_ | refine RngC.mk (by omega) (by omega) ?_ | refine IdxC.mk (by omega) (by omega) ?_ | refine LdF.mk ⟨.int .i64 p, fun w' hw => hw.cell (by simpa using hc2.one 0 rfl) id, ?_⟩ | refine brD (fun _ => ?_) (fun _ => ?_) | refine brND (fun _ => ?_) (fun _ => ?_) | refine brN (fun _ => ?_) (fun _ => ?_) | refine brI (fun _ => ?_) (fun _ => ?_))
          refine (admitsOf_ok (hx.no hS.ext) 2 p _).mono ?_
          rintro v w6 ⟨rfl, hx1⟩
          replace hS := hS.no hx1
          refine KeepC.mk hx1 ?_
          (conv => whnf)
          refine (admitsOf_ok (hy.no hS.ext) 2 p _).mono ?_
          rintro v w7 ⟨rfl, hx2⟩
          replace hS := hS.no hx2
          refine KeepC.mk (hx1.trans hx2) ?_
          clear hx1 hx2
          rw [e2]
          (conv => whnf)
          refine brN (fun h7 => ?_) (fun h7 => ?_)
          · repeat' ((conv => whnf); first | refine RetC.mk ?_ | refine NzC.mk (by decide) ?_ | refine RngC.mk (by omega) (by omega) ?_ | refine IdxC.mk (by omega) (by omega) ?_ | refine brD (fun _ => ?_) (fun _ => ?_) | refine brND (fun _ => ?_) (fun _ => ?_) | refine brN (fun _ => ?_) (fun _ => ?_) | refine brI (fun _ => ?_) (fun _ => ?_))
            refine ⟨⟨_, rfl, ?_⟩, hS.ext⟩
            simp only [Bool.false_eq_true, false_iff]
            intro hs
            have := hiff.2 hs p (List.mem_of_getElem? hpk) (by omega) (by omega) 2 (by omega) false
            simp [this] at h7
          · have h8 : admitsL 2 p false xs = admitsL 2 p false ys := by simpa using h7
            repeat' ((conv => whnf); first | refine RetC.mk ?_ | refine NzC.mk (by decide) ?_ | refine RngC.mk (by omega) (by omega) ?_ | refine IdxC.mk (by omega) (by omega) ?_ | refine brD (fun _ => ?_) (fun _ => ?_) | refine brND (fun _ => ?_) (fun _ => ?_) | refine brN (fun _ => ?_) (fun _ => ?_) | refine brI (fun _ => ?_) (fun _ => ?_))
            refine LoopE.mk ⟨_, [(9, .int .i64 ((1 + 1 : Nat) : Int)), (8, _), (5, _), (1, _), (0, _)], ?_, ⟨rfl, rfl, rfl, rfl, rfl, trivial⟩, ⟨1 + 1, rfl, rfl, by omega, hS, ⟨fun _ => f1 (by omega), fun _ => h8, fun h => by omega, fun h => by omega⟩⟩⟩
            omega
        · skip
          have e1 : (1 : Int) + ((2 : Nat) : Int).tmod 2 = 1 := by decide
          have e2 : decide (((2 : Nat) : Int) > 1) = true := by decide
          (conv => whnf)
          refine NzC.mk (by decide) ?_
          (conv => whnf)
          refine RngC.mk (by decide) (by decide) ?_
          rw [e1]
          (conv => whnf)
          (refine drawS tabOk mixed [] (No) [0, 1, 2, 3, 4, 5, 6, 7, 9, 10, 11, 12, 13, 14, 15, 16, 8, 17, 18] (by kernel_rfl) ?_; rintro w1 rfl; replace hS := hS.drew)
          repeat' ((conv => whnf); first | refine RetC.mk ?_ | refine NzC.mk (by decide) ?_ | refine RngC.mk (by omega) (by omega) ?_ | refine IdxC.mk (by omega) (by omega) ?_ | refine LdF.mk ⟨.int .i64 p, fun w' hw => hw.cell (by simpa using hc2.one 0 rfl) id, ?_⟩ | refine brD (fun _ => ?_) (fun _ => ?_) | refine brND (fun _ => ?_) (fun _ => ?_) | refine brN (fun _ => ?_) (fun _ => ?_) | refine brI (fun _ => ?_) (fun _ => ?_))
          refine (admitsOf_ok (hx.no hS.ext) 1 p _).mono ?_
          rintro v w6 ⟨rfl, hx1⟩
          replace hS := hS.no hx1
          refine KeepC.mk hx1 ?_
          (conv => whnf)
          refine (admitsOf_ok (hy.no hS.ext) 1 p _).mono ?_
          rintro v w7 ⟨rfl, hx2⟩
          replace hS := hS.no hx2
          refine KeepC.mk (hx1.trans hx2) ?_
          clear hx1 hx2
          rw [e2]
          (conv => whnf)
          refine brN (fun h7 => ?_) (fun h7 => ?_)
          · repeat' ((conv => whnf); first | refine RetC.mk ?_ | refine NzC.mk (by decide) ?_ | refine RngC.mk (by omega) (by omega) ?_ | refine IdxC.mk (by omega) (by omega) ?_ | refine brD (fun _ => ?_) (fun _ => ?_) | refine brND (fun _ => ?_) (fun _ => ?_) | refine brN (fun _ => ?_) (fun _ => ?_) | refine brI (fun _ => ?_) (fun _ => ?_))
            refine ⟨⟨_, rfl, ?_⟩, hS.ext⟩
            simp only [Bool.false_eq_true, false_iff]
            intro hs
            have := hiff.2 hs p (List.mem_of_getElem? hpk) (by omega) (by omega) 1 (by omega) true
            simp [this] at h7
          · have h8 : admitsL 1 p true xs = admitsL 1 p true ys := by simpa using h7
            repeat' ((conv => whnf); first | refine RetC.mk ?_ | refine NzC.mk (by decide) ?_ | refine RngC.mk (by omega) (by omega) ?_ | refine IdxC.mk (by omega) (by omega) ?_ | refine brD (fun _ => ?_) (fun _ => ?_) | refine brND (fun _ => ?_) (fun _ => ?_) | refine brN (fun _ => ?_) (fun _ => ?_) | refine brI (fun _ => ?_) (fun _ => ?_))
            refine LoopE.mk ⟨_, [(9, .int .i64 ((2 + 1 : Nat) : Int)), (8, _), (5, _), (1, _), (0, _)], ?_, ⟨rfl, rfl, rfl, rfl, rfl, trivial⟩, ⟨2 + 1, rfl, rfl, by omega, hS, ⟨fun _ => f1 (by omega), fun _ => f2 (by omega), fun _ => h8, fun h => by omega⟩⟩⟩
            omega
        · skip
          have e1 : (1 : Int) + ((3 : Nat) : Int).tmod 2 = 2 := by decide
          have e2 : decide (((3 : Nat) : Int) > 1) = true := by decide
          (conv => whnf)
          refine NzC.mk (by decide) ?_
          (conv => whnf)
          refine RngC.mk (by decide) (by decide) ?_
          rw [e1]
          (conv => whnf)
          (refine drawS tabOk mixed [] (No) [0, 1, 2, 3, 4, 5, 6, 7, 9, 10, 11, 12, 13, 14, 15, 16, 8, 17, 18] (by kernel_rfl) ?_; rintro w1 rfl; replace hS := hS.drew)
          repeat' ((conv => whnf); first | refine RetC.mk ?_ | refine NzC.mk (by decide) ?_ | refine RngC.mk (by omega) (by omega) ?_ | refine IdxC.mk (by omega) (by omega) ?_ | refine LdF.mk ⟨.int .i64 p, fun w' hw => hw.cell (by simpa using hc2.one 0 rfl) id, ?_⟩ | refine brD (fun _ => ?_) (fun _ => ?_) | refine brND (fun _ => ?_) (fun _ => ?_) | refine brN (fun _ => ?_) (fun _ => ?_) | refine brI (fun _ => ?_) (fun _ => ?_))
          refine (admitsOf_ok (hx.no hS.ext) 2 p _).mono ?_
          rintro v w6 ⟨rfl, hx1⟩
          replace hS := hS.no hx1
          refine KeepC.mk hx1 ?_
          (conv => whnf)
          refine (admitsOf_ok (hy.no hS.ext) 2 p _).mono ?_
          rintro v w7 ⟨rfl, hx2⟩
          replace hS := hS.no hx2
          refine KeepC.mk (hx1.trans hx2) ?_
          clear hx1 hx2
          rw [e2]
          (conv => whnf)
          refine brN (fun h7 => ?_) (fun h7 => ?_)
          · repeat' ((conv => whnf); first | refine RetC.mk ?_ | refine NzC.mk (by decide) ?_ | refine RngC.mk (by omega) (by omega) ?_ | refine IdxC.mk (by omega) (by omega) ?_ | refine brD (fun _ => ?_) (fun _ => ?_) | refine brND (fun _ => ?_) (fun _ => ?_) | refine brN (fun _ => ?_) (fun _ => ?_) | refine brI (fun _ => ?_) (fun _ => ?_))
            refine ⟨⟨_, rfl, ?_⟩, hS.ext⟩
            simp only [Bool.false_eq_true, false_iff]
            intro hs
            have := hiff.2 hs p (List.mem_of_getElem? hpk) (by omega) (by omega) 2 (by omega) true
            simp [this] at h7
          · have h8 : admitsL 2 p true xs = admitsL 2 p true ys := by simpa using h7
            repeat' ((conv => whnf); first | refine RetC.mk ?_ | refine NzC.mk (by decide) ?_ | refine RngC.mk (by omega) (by omega) ?_ | refine IdxC.mk (by omega) (by omega) ?_ | refine brD (fun _ => ?_) (fun _ => ?_) | refine brND (fun _ => ?_) (fun _ => ?_) | refine brN (fun _ => ?_) (fun _ => ?_) | refine brI (fun _ => ?_) (fun _ => ?_))
            refine LoopE.mk ⟨_, [(9, .int .i64 ((3 + 1 : Nat) : Int)), (8, _), (5, _), (1, _), (0, _)], ?_, ⟨rfl, rfl, rfl, rfl, rfl, trivial⟩, ⟨3 + 1, rfl, rfl, by omega, hS, ⟨fun _ => f1 (by omega), fun _ => f2 (by omega), fun _ => f3 (by omega), fun _ => h8⟩⟩⟩
            omega
        · repeat' ((conv => whnf); first | refine RetC.mk ?_ | refine NzC.mk (by decide) ?_ | refine RngC.mk (by omega) (by omega) ?_ | refine IdxC.mk (by omega) (by omega) ?_ | refine brD (fun _ => ?_) (fun _ => ?_) | refine brND (fun _ => ?_) (fun _ => ?_) | refine brN (fun _ => ?_) (fun _ => ?_) | refine brI (fun _ => ?_) (fun _ => ?_))
          refine LoopE.mk ⟨_, [(8, .int .i64 ((k + 1 : Nat) : Int)), (5, _), (1, _), (0, _)], ?_, ⟨rfl, rfl, rfl, rfl, trivial⟩, ⟨k + 1, rfl, rfl, by omega, hS, next fun _ _ => ?_⟩⟩
          · omega
          · rintro proto (rfl | rfl) out
            · cases out
              · exact f1 (by omega)
              · exact f3 (by omega)
            · cases out
              · exact f2 (by omega)
              · exact f4 (by omega)
    · repeat' ((conv => whnf); first | refine RetC.mk ?_ | refine NzC.mk (by decide) ?_ | refine RngC.mk (by omega) (by omega) ?_ | refine IdxC.mk (by omega) (by omega) ?_ | refine brD (fun _ => ?_) (fun _ => ?_) | refine brND (fun _ => ?_) (fun _ => ?_) | refine brN (fun _ => ?_) (fun _ => ?_) | refine brI (fun _ => ?_) (fun _ => ?_))
      obtain rfl : k = N := by omega
      refine ⟨⟨_, rfl, ?_⟩, hS.ext⟩
      simp only [true_iff]
      refine hiff.1 fun p hp => ?_
      obtain ⟨j, hj⟩ := List.mem_iff_getElem?.1 hp
      exact hi j p (by have := (List.getElem?_eq_some_iff.1 hj).1; omega) hj
end
end Go.Proofs.YtakdekkieobbaaaDoor
