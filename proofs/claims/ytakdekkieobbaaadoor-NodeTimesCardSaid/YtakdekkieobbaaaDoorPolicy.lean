
/-
  Package policy: Check, Admits; the reference's RulesFault, AdmitsOf.
-/
import Derived.Test.YtakdekkieobbaaaDoorPacket
import Derived.Test.YtakdekkieobbaaaDoorEvI
namespace Go.Proofs.YtakdekkieobbaaaDoor
open Go Ev

structure RuleS where
  allow : Bool
  out : Bool
  proto : Int
  low : Int
  top : Int
deriving DecidableEq
def encRule (r : RuleS) : List Value := [.bool r.allow, .bool r.out, .int .i64 r.proto, .int .i64 r.low, .int .i64 r.top]
theorem codRule : Codec 5 encRule := ⟨fun _ => rfl, fun _ => rfl, by decide⟩
def noRule : RuleS := ⟨false, false, 0, 0, 0⟩
def RuleS.bad (r : RuleS) : Bool := decide (r.proto < 0 ∨ r.proto > 2 ∨ r.low < 1 ∨ r.low > r.top ∨ r.top > 65535)
def RuleS.fits (r : RuleS) (proto port : Int) (out : Bool) : Bool := decide (r.out = out ∧ (r.proto = 0 ∨ r.proto = proto) ∧ r.low ≤ port ∧ port ≤ r.top)
def admitsL (proto port : Int) (out : Bool) : List RuleS → Bool
  | [] => false
  | r :: l => match r.fits proto port out with
    | true => r.allow
    | false => admitsL proto port out l
theorem admits_step {proto port : Int} {out : Bool} {l : List RuleS} {k : Nat} {r : RuleS} (h : l[k]? = some r) : admitsL proto port out (l.drop k) = match r.fits proto port out with | true => r.allow | false => admitsL proto port out (l.drop (k + 1)) := by
  obtain ⟨lt, e⟩ := List.getElem?_eq_some_iff.1 h
  rw [List.drop_eq_getElem_cons lt, e]
  rfl
/-- The first bad rule. -/
def badI : List RuleS → Nat → Int
  | [], _ => -1
  | r :: l, k => match r.bad with
    | true => (k : Int)
    | false => badI l (k + 1)
theorem badI_step {l : List RuleS} {k : Nat} {r : RuleS} (h : l[k]? = some r) : badI (l.drop k) k = match r.bad with | true => (k : Int) | false => badI (l.drop (k + 1)) (k + 1) := by
  obtain ⟨lt, e⟩ := List.getElem?_eq_some_iff.1 h
  rw [List.drop_eq_getElem_cons lt, e]
  rfl
theorem badI_neg : ∀ (l : List RuleS) (k : Nat), badI l k < 0 ↔ ∀ r ∈ l, r.bad = false
  | [], k => by simp [badI]
  | r :: l, k => by
    unfold badI
    cases h : r.bad
    · simp [h, badI_neg l (k + 1)]
    · simp [h]
theorem badI_ge : ∀ (l : List RuleS) (k : Nat), -1 ≤ badI l k ∧ badI l k < k + l.length
  | [], k => by simp [badI]; omega
  | r :: l, k => by
    unfold badI
    have := badI_ge l (k + 1)
    cases h : r.bad
    all_goals simp only [List.length_cons]
    all_goals omega
/-- What is wrong with rules: number and place. -/
def faultL (l : List RuleS) : Nat × Int := if l.length > 20 then (2, -1) else if badI l 0 < 0 then (0, -1) else (2, badI l 0)
def GoodR (l : List RuleS) : Prop := l.length ≤ 20 ∧ ∀ r ∈ l, r.bad = false
instance (l : List RuleS) : Decidable (GoodR l) := by unfold GoodR; infer_instance
theorem fault_good {l : List RuleS} : (faultL l).1 = 0 ↔ GoodR l := by
  unfold faultL GoodR
  split
  · simp
    omega
  · split
    · rename_i h1 h2
      simp only [true_iff]
      exact ⟨by omega, (badI_neg l 0).1 h2⟩
    · rename_i h1 h2
      simp only [Nat.reduceEqDiff, false_iff]
      rintro ⟨_, h⟩
      exact h2 ((badI_neg l 0).2 h)
theorem fault_code (l : List RuleS) : (faultL l).1 = 0 ∧ (faultL l).2 = -1 ∨ (faultL l).1 = 2 ∧ (faultL l).2 = -1 ∨ (faultL l).1 = 2 ∧ 0 ≤ (faultL l).2 := by
  unfold faultL
  split
  · exact .inr (.inl ⟨rfl, rfl⟩)
  · split
    · exact .inl ⟨rfl, rfl⟩
    · exact .inr (.inr ⟨rfl, by dsimp only; omega⟩)

/-- An error value with its place: bare, or a fault of api's. -/
def FaultV (E : Nat → Addr) (w0 w : World) (v : Value) (c : Nat) (a : Int) : Prop :=
  (a = -1 ∧ v = errV E c) ∨ (0 ≤ a ∧ 0 < c ∧ ∃ f, v = .iface 53 (.pointer (some ⟨f, 0, none⟩)) ∧ w0.heap.size ≤ f ∧ Blk w f 55 [.int .i64 a, errV E c])
theorem FaultV.no {E : Nat → Addr} {w0 w w' : World} {v : Value} {c : Nat} {a : Int} (h : FaultV E w0 w v c a) (hx : Ext No w w') : FaultV E w0 w' v c a := by
  rcases h with h | ⟨h1, h2, f, h3, h4, h5⟩
  · exact .inl h
  · exact .inr ⟨h1, h2, f, h3, h4, hx.blk h5 id⟩
theorem FaultV.older {E : Nat → Addr} {w0 w1 w : World} {v : Value} {c : Nat} {a : Int} (h : FaultV E w1 w v c a) (hle : w0.heap.size ≤ w1.heap.size) : FaultV E w0 w v c a := by
  rcases h with h | ⟨h1, h2, f, h3, h4, h5⟩
  · exact .inl h
  · exact .inr ⟨h1, h2, f, h3, Nat.le_trans hle h4, h5⟩
theorem FaultV.ne {E : Nat → Addr} {w0 w : World} {v : Value} {c : Nat} {a : Int} (h : FaultV E w0 w v (c + 1) a) : ∃ t u, v = .iface t u := by
  rcases h with ⟨_, h⟩ | ⟨_, _, f, h, _⟩
  · exact ⟨_, _, h⟩
  · exact ⟨_, _, h⟩

section
variable {w : World} {G : RuleS → Prop} {a b : Option Addr} {n m c d : Nat} {xs ys : List RuleS}
theorem chk1_ok (r : RuleS) (w : World) : CallC Tryd.prog 40 ([Value.agg (encRule r).toArray] ++ []).toArray w fun v w' => v = .bool r.bad ∧ Ext No w w' := by
  refine fn_intro tabOk Tryd.func40 (by kernel_rfl) rfl Tryd.ntmps40 (Nat.le_of_ble_eq_true rfl) ?_
  have hS := St.start w No
  (conv => whnf)
  refine hS.new (fun b w' hb hS => ?_)
  replace hS : St w No w' [blk b 24 (encRule r)] := hS
  repeat' ((conv => whnf); first | refine RetC.mk ?_ | refine NzC.mk (by decide) ?_ | refine RngC.mk (by omega) (by omega) ?_ | refine IdxC.mk (by omega) (by omega) ?_ | refine hS.ld 0 rfl rfl ?_ | refine hS.laX 0 rfl rfl ?_ | refine brD (fun _ => ?_) (fun _ => ?_) | refine brND (fun _ => ?_) (fun _ => ?_) | refine brN (fun _ => ?_) (fun _ => ?_) | refine brI (fun _ => ?_) (fun _ => ?_))
  all_goals refine ⟨congrArg Value.bool (Bool.eq_iff_iff.2 ?_), hS.ext⟩
  all_goals simp [RuleS.bad]
  all_goals omega
theorem idxRule_ok (hx : Slc w 5 encRule G a n xs) :
    CallC Tryd.prog 39 #[.slice a n c, .func (.func 40) #[] #[]] w fun v w' => v = .int .i64 (badI xs 0) ∧ Ext No w w' := by
  have hm := hx.max
  have hl := hx.len
  refine fn_intro tabOk Tryd.func39 (by kernel_rfl) rfl Tryd.ntmps39 (Nat.le_of_ble_eq_true rfl) ?_
  have hS := St.start w No
  (conv => whnf)
  refine loopR tabOk (fun σ w' q => ∃ k : Nat, σ = [(8, .int .i64 (k : Int)), (7, .int .i64 n), (1, .func (.func 40) #[] #[]), (0, .slice a n c)] ∧ q = n - k ∧ k ≤ n ∧ St w No w' [] ∧ badI xs 0 = badI (xs.drop k) k)
    (σ' := [(8, .int .i64 ((0 : Nat) : Int)), (7, .int .i64 n), (1, .func (.func 40) #[] #[]), (0, .slice a n c)]) (n := n) ⟨rfl, rfl, rfl, rfl, trivial⟩ ⟨0, rfl, rfl, Nat.zero_le _, hS, by simp⟩ ?_
  clear hS
  rintro _ w1 q ⟨k, rfl, rfl, hk, hS, hi⟩
  (conv => whnf)
  refine brD (fun h3 => ?_) (fun h3 => ?_)
  · obtain ⟨b0, o0, x, hxk, hgx, rfl, _, hc⟩ := hx.at (k := k) (by omega)
    have hst := badI_step hxk
    (conv => whnf)
    refine IdxC.mk (by omega) (by omega) ?_
    (conv => whnf)
    refine hS.lar (l := encRule x) rfl hc id ?_
    (conv => whnf)
    refine (chk1_ok x _).mono ?_
    rintro v w' ⟨rfl, hx'⟩
    replace hS := hS.no hx'
    clear hx'
    (conv => whnf)
    refine brI (fun h4 => ?_) (fun h4 => ?_)
    · repeat' ((conv => whnf); first | refine RetC.mk ?_ | refine NzC.mk (by decide) ?_ | refine RngC.mk (by omega) (by omega) ?_ | refine IdxC.mk (by omega) (by omega) ?_ | refine brD (fun _ => ?_) (fun _ => ?_) | refine brND (fun _ => ?_) (fun _ => ?_) | refine brN (fun _ => ?_) (fun _ => ?_) | refine brI (fun _ => ?_) (fun _ => ?_))
      rw [hi, hst, h4]
      exact ⟨rfl, hS.ext⟩
    · (conv => whnf)
      refine RngC.mk (by omega) (by omega) ?_
      (conv => whnf)
      refine LoopE.mk ⟨_, [(8, .int .i64 ((k + 1 : Nat) : Int)), (7, _), (1, _), (0, _)], ?_, ⟨rfl, rfl, rfl, rfl, trivial⟩, ⟨k + 1, rfl, rfl, by omega, hS, by rw [hi, hst, h4]⟩⟩
      omega
  · repeat' ((conv => whnf); first | refine RetC.mk ?_ | refine NzC.mk (by decide) ?_ | refine RngC.mk (by omega) (by omega) ?_ | refine IdxC.mk (by omega) (by omega) ?_ | refine brD (fun _ => ?_) (fun _ => ?_) | refine brND (fun _ => ?_) (fun _ => ?_) | refine brN (fun _ => ?_) (fun _ => ?_) | refine brI (fun _ => ?_) (fun _ => ?_))
    have : k = n := by omega
    subst this
    rw [hi, List.drop_of_length_le (by omega)]
    exact ⟨rfl, hS.ext⟩
theorem rcheck_ok {E : Nat → Addr} {q : Nat} (hx : Slc w 5 encRule G a n xs) (hE : Errs w E q [2]) :
    CallC Tryd.prog 14 #[.slice a n c] w fun v w' => FaultV E w w' v (faultL xs).1 (faultL xs).2 ∧ Ext No w w' := by
  have hl := hx.len
  have hge := badI_ge xs 0
  unfold faultL
  refine fn_intro tabOk Tryd.func14 (by kernel_rfl) rfl Tryd.ntmps14 (Nat.le_of_ble_eq_true rfl) ?_
  have hS := St.start w No
  (conv => whnf)
  refine brD (fun h1 => ?_) (fun h1 => ?_)
  · rw [if_pos (by omega)]
    repeat' ((conv => whnf); first | refine RetC.mk ?_ | refine NzC.mk (by decide) ?_ | refine RngC.mk (by omega) (by omega) ?_ | refine IdxC.mk (by omega) (by omega) ?_ | refine hS.ldr (hE.at_ 2 rfl) id ?_ | refine hS.ldrF (hE.at_ 2 rfl) id id ?_ | refine brD (fun _ => ?_) (fun _ => ?_) | refine brND (fun _ => ?_) (fun _ => ?_) | refine brN (fun _ => ?_) (fun _ => ?_) | refine brI (fun _ => ?_) (fun _ => ?_))
    exact ⟨.inl ⟨rfl, rfl⟩, hS.ext⟩
  rw [if_neg (by omega)]
  (conv => whnf)
  refine (idxRule_ok hx).mono ?_
  rintro v w' ⟨rfl, hx'⟩
  replace hS := hS.no hx'
  (conv => whnf)
  refine brD (fun h2 => ?_) (fun h2 => ?_)
  · rw [if_neg (by omega)]
    repeat' ((conv => whnf); first | refine RetC.mk ?_ | refine NzC.mk (by decide) ?_ | refine RngC.mk (by omega) (by omega) ?_ | refine IdxC.mk (by omega) (by omega) ?_ | refine hS.ldr (hE.at_ 2 rfl) id ?_ | refine hS.ldrF (hE.at_ 2 rfl) id id ?_ | refine hS.new (fun f w' hf hS => ?_) | refine brD (fun _ => ?_) (fun _ => ?_) | refine brND (fun _ => ?_) (fun _ => ?_) | refine brN (fun _ => ?_) (fun _ => ?_) | refine brI (fun _ => ?_) (fun _ => ?_))
    exact ⟨.inr ⟨by dsimp only; omega, by dsimp only; omega, f, rfl, hf, hS.blk 0 rfl⟩, hS.ext⟩
  · rw [if_pos (by omega)]
    repeat' ((conv => whnf); first | refine RetC.mk ?_ | refine NzC.mk (by decide) ?_ | refine RngC.mk (by omega) (by omega) ?_ | refine IdxC.mk (by omega) (by omega) ?_ | refine brD (fun _ => ?_) (fun _ => ?_) | refine brND (fun _ => ?_) (fun _ => ?_) | refine brN (fun _ => ?_) (fun _ => ?_) | refine brI (fun _ => ?_) (fun _ => ?_))
    exact ⟨.inl ⟨rfl, rfl⟩, hS.ext⟩
theorem admits_ok (hx : Slc w 5 encRule G a n xs) (proto port : Int) (out : Bool) :
    CallC Tryd.prog 38 #[.slice a n c, .int .i64 proto, .int .i64 port, .bool out] w fun v w' => v = .bool (admitsL proto port out xs) ∧ Ext No w w' := by
  have hm := hx.max
  have hl := hx.len
  refine fn_intro tabOk Tryd.func38 (by kernel_rfl) rfl Tryd.ntmps38 (Nat.le_of_ble_eq_true rfl) ?_
  have hS := St.start w No
  (conv => whnf)
  refine loopR tabOk (fun σ w' q => ∃ k : Nat, σ = [(13, .int .i64 (k : Int)), (12, .int .i64 n), (11, .slice a n c), (3, .bool out), (2, .int .i64 port), (1, .int .i64 proto)] ∧ q = n - k ∧ k ≤ n ∧ St w No w' [] ∧ admitsL proto port out xs = admitsL proto port out (xs.drop k))
    (σ' := [(13, .int .i64 ((0 : Nat) : Int)), (12, .int .i64 n), (11, .slice a n c), (3, .bool out), (2, .int .i64 port), (1, .int .i64 proto)]) (n := n) ⟨rfl, rfl, rfl, rfl, rfl, rfl, trivial⟩ ⟨0, rfl, rfl, Nat.zero_le _, hS, by simp⟩ ?_
  clear hS
  rintro _ w1 q ⟨k, rfl, rfl, hk, hS, hi⟩
  (conv => whnf)
  refine brD (fun h3 => ?_) (fun h3 => ?_)
  · obtain ⟨b0, o0, x, hxk, hgx, rfl, _, hc⟩ := hx.at (k := k) (by omega)
    have hst := admits_step (proto := proto) (port := port) (out := out) hxk
    (conv => whnf)
    refine IdxC.mk (by omega) (by omega) ?_
    (conv => whnf)
    refine hS.lar (l := encRule x) rfl hc id ?_
    (conv => whnf)
    refine hS.new (fun bx w' hb hS => ?_)
    (conv => whnf)
    refine hS.st 0 rfl (Nat.le_of_ble_eq_true rfl) rfl (fun w' hS => ?_)
    replace hS : St w No w' [blk bx 24 (encRule x)] := hS
    have yes : x.fits proto port out = true → admitsL proto port out xs = x.allow := fun h => by rw [hi, hst, h]
    have no : x.fits proto port out = false → admitsL proto port out xs = admitsL proto port out (xs.drop (k + 1)) := fun h => by rw [hi, hst, h]
    clear hi hst
    repeat' ((conv => whnf); first | refine RetC.mk ?_ | refine NzC.mk (by decide) ?_ | refine RngC.mk (by omega) (by omega) ?_ | refine IdxC.mk (by omega) (by omega) ?_ | refine hS.ld 0 rfl rfl ?_ | refine hS.laX 0 rfl rfl ?_ | refine brD (fun _ => ?_) (fun _ => ?_) | refine brND (fun _ => ?_) (fun _ => ?_) | refine brN (fun _ => ?_) (fun _ => ?_) | refine brI (fun _ => ?_) (fun _ => ?_))
    all_goals first
      | (refine ⟨congrArg Value.bool (yes ?_).symm, hS.ext⟩; clear hS yes no; simp_all [RuleS.fits] <;> intros <;> omega)
      | (replace no := no (by clear hS yes no; simp_all [RuleS.fits] <;> intros <;> omega); clear yes; refine LoopE.mk ⟨_, [(13, .int .i64 ((k + 1 : Nat) : Int)), (12, _), (11, _), (3, _), (2, _), (1, _)], ?_, ⟨rfl, rfl, rfl, rfl, rfl, rfl, trivial⟩, ⟨k + 1, rfl, rfl, by omega, hS.keep 0, no⟩⟩; omega)
      | trace_state
  · repeat' ((conv => whnf); first | refine RetC.mk ?_ | refine NzC.mk (by decide) ?_ | refine RngC.mk (by omega) (by omega) ?_ | refine IdxC.mk (by omega) (by omega) ?_ | refine brD (fun _ => ?_) (fun _ => ?_) | refine brND (fun _ => ?_) (fun _ => ?_) | refine brN (fun _ => ?_) (fun _ => ?_) | refine brI (fun _ => ?_) (fun _ => ?_))
    have : k = n := by omega
    subst this
    rw [hi, List.drop_of_length_le (by omega)]
    exact ⟨rfl, hS.ext⟩
theorem admitsP_ok {E : Nat → Addr} {q : Nat} (hx : Slc w 5 encRule G a n xs) (p : PktS) (out : Bool) (hE : Errs w E q [2, 3]) :
    CallC Tryd.prog 12 #[.slice a n c, .agg (encPkt p).toArray, .bool out] w fun v w' => (∃ e, v = .tuple #[.bool (decide (GoodR xs ∧ p.err = 0) && admitsL p.proto p.dp out xs), e] ∧ FaultV E w w' e (if (faultL xs).1 = 0 then p.err else (faultL xs).1) (if (faultL xs).1 = 0 then -1 else (faultL xs).2)) ∧ Ext No w w' := by
  have hg := @fault_good xs
  have hcd := fault_code xs
  refine fn_intro tabOk Tryd.func12 (by kernel_rfl) rfl Tryd.ntmps12 (Nat.le_of_ble_eq_true rfl) ?_
  have hS := St.start w No
  (conv => whnf)
  refine hS.new (fun bp w' hbp hS => ?_)
  replace hS : St w No w' [blk bp 28 (encPkt p)] := hS
  (conv => whnf)
  refine (rcheck_ok (hx.no hS.ext) ((hE.sub rfl).ext hS.ext fun _ h => h.elim)).mono ?_
  rintro v w2 ⟨hf, hx'⟩
  have hle := hS.ext.size
  replace hS := hS.no hx'
  generalize hfl : faultL xs = F at hf hg hcd
  obtain ⟨fc, fa⟩ := F
  dsimp only at hf hg hcd ⊢
  cases fc with
  | succ j =>
    rw [if_neg (by omega), if_neg (by omega), decide_eq_false (fun h => by have := hg.2 h.1; omega)]
    obtain ⟨t, u, rfl⟩ := hf.ne
    repeat' ((conv => whnf); first | refine RetC.mk ?_ | refine NzC.mk (by decide) ?_ | refine RngC.mk (by omega) (by omega) ?_ | refine IdxC.mk (by omega) (by omega) ?_ | refine brD (fun _ => ?_) (fun _ => ?_) | refine brND (fun _ => ?_) (fun _ => ?_) | refine brN (fun _ => ?_) (fun _ => ?_) | refine brI (fun _ => ?_) (fun _ => ?_))
    refine ⟨⟨_, rfl, ?_⟩, hS.ext⟩
    exact hf.older hle
  | zero =>
    have hgr : GoodR xs := hg.1 rfl
    rw [if_pos rfl, if_pos rfl]
    obtain rfl : v = .nilIface := by
      rcases hf with ⟨_, h⟩ | ⟨_, h, _⟩
      · exact h
      · omega
    (conv => whnf)
    refine hS.laX 0 rfl rfl ?_
    (conv => whnf)
    refine (pcheck_ok p _ (hE.ext hS.ext fun _ h => h.elim)).mono ?_
    rintro v w3 ⟨rfl, hx'⟩
    replace hS := hS.no hx'
    cases hpe : p.err with
    | succ j =>
      rw [decide_eq_false (by omega)]
      repeat' ((conv => whnf); first | refine RetC.mk ?_ | refine NzC.mk (by decide) ?_ | refine RngC.mk (by omega) (by omega) ?_ | refine IdxC.mk (by omega) (by omega) ?_ | refine brD (fun _ => ?_) (fun _ => ?_) | refine brND (fun _ => ?_) (fun _ => ?_) | refine brN (fun _ => ?_) (fun _ => ?_) | refine brI (fun _ => ?_) (fun _ => ?_))
      exact ⟨⟨_, rfl, .inl ⟨rfl, rfl⟩⟩, hS.ext⟩
    | zero =>
      rw [decide_eq_true ⟨hgr, rfl⟩, Bool.true_and]
      repeat' ((conv => whnf); first | refine RetC.mk ?_ | refine NzC.mk (by decide) ?_ | refine RngC.mk (by omega) (by omega) ?_ | refine IdxC.mk (by omega) (by omega) ?_ | refine hS.ld 0 rfl rfl ?_ | refine hS.laX 0 rfl rfl ?_ | refine brD (fun _ => ?_) (fun _ => ?_) | refine brND (fun _ => ?_) (fun _ => ?_) | refine brN (fun _ => ?_) (fun _ => ?_) | refine brI (fun _ => ?_) (fun _ => ?_))
      refine (admits_ok (hx.no hS.ext) p.proto p.dp out).mono ?_
      rintro v w' ⟨rfl, hx'⟩
      replace hS := hS.no hx'
      repeat' ((conv => whnf); first | refine RetC.mk ?_ | refine NzC.mk (by decide) ?_ | refine RngC.mk (by omega) (by omega) ?_ | refine IdxC.mk (by omega) (by omega) ?_ | refine brD (fun _ => ?_) (fun _ => ?_) | refine brND (fun _ => ?_) (fun _ => ?_) | refine brN (fun _ => ?_) (fun _ => ?_) | refine brI (fun _ => ?_) (fun _ => ?_))
      exact ⟨⟨_, rfl, .inl ⟨rfl, rfl⟩⟩, hS.ext⟩
end
end Go.Proofs.YtakdekkieobbaaaDoor
