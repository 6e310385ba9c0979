
/-
  Cells and flows, and what package slices does with rows of cells.
-/
import Derived.Test.YteakdmngllfodaaDoorErr
import Derived.Test.YteakdmngllfodaaDoorEvJ
namespace Go.Proofs.YteakdmngllfodaaDoor
open Go Ev

structure FlowS where
  proto : Int
  ia : Int
  ip : Int
  fa : Int
  fp : Int
  port : Int
  state : Int
  til : Int
  deriving DecidableEq
structure CellS where
  slot : Int
  ver : Int
  f : FlowS
  deriving DecidableEq

def encFlow (f : FlowS) : List Value := [.int .i64 f.proto, .int .i64 f.ia, .int .i64 f.ip, .int .i64 f.fa, .int .i64 f.fp, .int .i64 f.port, .int .i64 f.state, .int .i64 f.til]
def encCell (c : CellS) : List Value := [.int .i64 c.slot, .int .i64 c.ver, .int .i64 c.f.proto, .int .i64 c.f.ia, .int .i64 c.f.ip, .int .i64 c.f.fa, .int .i64 c.f.fp, .int .i64 c.f.port, .int .i64 c.f.state, .int .i64 c.f.til]
def FlowS.pr (f : FlowS) : List Pr := [.int f.proto, .int f.ia, .int f.ip, .int f.fa, .int f.fp, .int f.port, .int f.state, .int f.til]
def CellS.pr (c : CellS) : List Pr := [.int c.slot, .int c.ver, .int c.f.proto, .int c.f.ia, .int c.f.ip, .int c.f.fa, .int c.f.fp, .int c.f.port, .int c.f.state, .int c.f.til]
def endPr (a p : Int) : List Pr := [.int a, .int p]
def noFlow : FlowS := ⟨0, 0, 0, 0, 0, 0, 0, 0⟩

theorem codCell : Codec 10 encCell := ⟨fun _ => rfl, fun _ => rfl, by decide⟩
theorem codFlow : Codec 8 encFlow := ⟨fun _ => rfl, fun _ => rfl, by decide⟩
theorem pr_flow (f g : FlowS) : (f.pr = g.pr) = (f = g) := by
  obtain ⟨a, b, c, d, e, p, s, u⟩ := f
  obtain ⟨a', b', c', d', e', p', s', u'⟩ := g
  simp [FlowS.pr]
theorem pr_cell (f g : CellS) : (f.pr = g.pr) = (f = g) := by
  obtain ⟨x, y, a, b, c, d, e, p, s, u⟩ := f
  obtain ⟨x', y', a', b', c', d', e', p', s', u'⟩ := g
  simp [CellS.pr]

theorem eqCell {c d : CellS} {k : Value → Prop} (hk : k (.bool (decide (c = d)))) :
    PureC Tryd.prog (do eqGuard .eql 55 (.tmp 0) (.tmp 0) (.agg (encCell c).toArray) (.agg (encCell d).toArray); Go.binOp .eql 55 (.agg (encCell c).toArray) (.agg (encCell d).toArray)) k :=
  eqS (a := c.pr) (b := d.pr) (ks := [.int, .int, .int, .int, .int, .int, .int, .int, .int, .int]) (by kernel_rfl) (by kernel_rfl) (by kernel_rfl) rfl rfl (by simpa only [pr_cell] using hk)
theorem neCell {c d : CellS} {k : Value → Prop} (hk : k (.bool (!decide (c = d)))) :
    PureC Tryd.prog (do eqGuard .neq 55 (.tmp 0) (.tmp 0) (.agg (encCell c).toArray) (.agg (encCell d).toArray); Go.binOp .neq 55 (.agg (encCell c).toArray) (.agg (encCell d).toArray)) k :=
  neS (a := c.pr) (b := d.pr) (ks := [.int, .int, .int, .int, .int, .int, .int, .int, .int, .int]) (by kernel_rfl) (by kernel_rfl) (by kernel_rfl) rfl rfl (by simpa only [pr_cell] using hk)
theorem neFlow {c d : FlowS} {k : Value → Prop} (hk : k (.bool (!decide (c = d)))) :
    PureC Tryd.prog (do eqGuard .neq 38 (.tmp 0) (.tmp 0) (.agg (encFlow c).toArray) (.agg (encFlow d).toArray); Go.binOp .neq 38 (.agg (encFlow c).toArray) (.agg (encFlow d).toArray)) k :=
  neS (a := c.pr) (b := d.pr) (ks := [.int, .int, .int, .int, .int, .int, .int, .int]) (by kernel_rfl) (by kernel_rfl) (by kernel_rfl) rfl rfl (by simpa only [pr_flow] using hk)

/-! ### The first that is so -/
def idxI {α : Type} (p : α → Bool) : List α → Nat → Int
  | [], _ => -1
  | x :: xs, k => match p x with | true => (k : Int) | false => idxI p xs (k + 1)
theorem idxI_step {α : Type} (p : α → Bool) {xs : List α} {k : Nat} {x : α} (hx : xs[k]? = some x) : idxI p (xs.drop k) k = match p x with | true => (k : Int) | false => idxI p (xs.drop (k + 1)) (k + 1) := by
  obtain ⟨hlt, rfl⟩ := List.getElem?_eq_some_iff.1 hx
  rw [List.drop_eq_getElem_cons hlt]
  rfl
theorem idxI_nonneg {α : Type} (p : α → Bool) : ∀ (xs : List α) (k : Nat), (0 ≤ idxI p xs k) = (xs.any p = true)
  | [], k => by simp [idxI]
  | x :: xs, k => by
    unfold idxI
    cases h : p x
    · simp [h, idxI_nonneg p xs (k + 1)]
    · simp [h]

section
variable {w : World} {G : CellS → Prop} {a b : Option Addr} {n m c d : Nat} {xs ys : List CellS}

theorem indexFunc_ok (p : CellS → Bool) (g : FuncId) (caps : List Value) (hx : Slc w 10 encCell G a n xs)
    (hg : ∀ x ∈ xs, G x → ∀ w', Ext No w w' → CallC Tryd.prog g ([Value.agg (encCell x).toArray] ++ caps).toArray w' fun v w'' => v = .bool (p x) ∧ Ext No w' w'') :
    CallC Tryd.prog 85 #[.slice a n c, .func (.func g) #[] caps.toArray] w fun v w' => v = .int .i64 (idxI p xs 0) ∧ Ext No w w' := by
  have hm := hx.max
  have hl := hx.len
  refine fn_intro tabOk Tryd.func85 (by kernel_rfl) rfl Tryd.ntmps85 (Nat.le_of_ble_eq_true rfl) ?_
  have hS := St.start w No
  (conv => whnf)
  refine loopR tabOk (fun σ w' q => ∃ k : Nat, σ = [(8, .int .i64 k), (7, .int .i64 n), (1, .func (.func g) #[] caps.toArray), (0, .slice a n c)] ∧ q = n - k ∧ k ≤ n ∧ St w No w' [] ∧ idxI p xs 0 = idxI p (xs.drop k) k)
    (σ' := [(8, .int .i64 ((0 : Nat) : Int)), (7, .int .i64 n), (1, .func (.func g) #[] caps.toArray), (0, .slice a n c)]) (n := n) ⟨rfl, rfl, rfl, rfl, trivial⟩ ⟨0, rfl, rfl, Nat.zero_le _, hS, by simp⟩ ?_
  clear hS
  rintro _ w1 q ⟨k, rfl, rfl, hk, hS, hi⟩
  (conv => whnf)
  refine brD (fun h3 => ?_) (fun h3 => ?_)
  · obtain ⟨b0, o0, x, hxk, hgx, rfl, _, hc⟩ := hx.at (k := k) (by omega)
    have hst := idxI_step p hxk
    (conv => whnf)
    refine IdxC.mk (by omega) (by omega) ?_
    (conv => whnf)
    refine hS.lar (l := encCell x) rfl hc id ?_
    have key := hg x (List.mem_of_getElem? hxk) hgx w1 hS.ext
    have fin : ∀ (K : Value → World → Prop), (∀ w', Ext No w1 w' → K (.bool (p x)) w') → CallC Tryd.prog g ([Value.agg (encCell x).toArray] ++ caps).toArray w1 K := by
      intro K hK
      refine key.mono ?_
      rintro v w' ⟨rfl, hx'⟩
      exact hK w' hx'
    clear key
    cases caps
    all_goals
      (conv => whnf)
      refine fin _ ?_
      intro w' hx'
      replace hS := hS.no hx'
      (conv => whnf)
      refine brI (fun h4 => ?_) (fun h4 => ?_)
      · repeat' ((conv => whnf); first | refine RetC.mk ?_ | refine NzC.mk (by decide) ?_ | refine RngC.mk (by omega) (by omega) ?_ | refine IdxC.mk (by omega) (by omega) ?_ | refine brD (fun _ => ?_) (fun _ => ?_) | refine brND (fun _ => ?_) (fun _ => ?_) | refine brN (fun _ => ?_) (fun _ => ?_) | refine brI (fun _ => ?_) (fun _ => ?_))
        rw [hi, hst, h4]
        exact ⟨rfl, hS.ext⟩
      · (conv => whnf)
        refine RngC.mk (by omega) (by omega) ?_
        (conv => whnf)
        refine LoopE.mk ⟨_, [(8, .int .i64 ((k + 1 : Nat) : Int)), (7, _), (1, _), (0, _)], ?_, ⟨rfl, rfl, rfl, rfl, trivial⟩, ⟨k + 1, rfl, rfl, by omega, hS, ?_⟩⟩
        · omega
        · rw [hi, hst, h4]
  · repeat' ((conv => whnf); first | refine RetC.mk ?_ | refine NzC.mk (by decide) ?_ | refine RngC.mk (by omega) (by omega) ?_ | refine IdxC.mk (by omega) (by omega) ?_ | refine brD (fun _ => ?_) (fun _ => ?_) | refine brND (fun _ => ?_) (fun _ => ?_) | refine brN (fun _ => ?_) (fun _ => ?_) | refine brI (fun _ => ?_) (fun _ => ?_))
    have : k = n := by omega
    subst this
    rw [hi, List.drop_of_length_le (by omega)]
    exact ⟨rfl, hS.ext⟩

theorem containsFunc_ok (p : CellS → Bool) (g : FuncId) (caps : List Value) (hx : Slc w 10 encCell G a n xs)
    (hg : ∀ x ∈ xs, G x → ∀ w', Ext No w w' → CallC Tryd.prog g ([Value.agg (encCell x).toArray] ++ caps).toArray w' fun v w'' => v = .bool (p x) ∧ Ext No w' w'') :
    CallC Tryd.prog 68 #[.slice a n c, .func (.func g) #[] caps.toArray] w fun v w' => v = .bool (xs.any p) ∧ Ext No w w' := by
  refine fn_intro tabOk Tryd.func68 (by kernel_rfl) rfl Tryd.ntmps68 (Nat.le_of_ble_eq_true rfl) ?_
  (conv => whnf)
  refine (indexFunc_ok p g caps hx hg).mono ?_
  rintro v w' ⟨rfl, hx'⟩
  repeat' ((conv => whnf); first | refine RetC.mk ?_ | refine NzC.mk (by decide) ?_ | refine RngC.mk (by omega) (by omega) ?_ | refine IdxC.mk (by omega) (by omega) ?_ | refine brD (fun _ => ?_) (fun _ => ?_) | refine brND (fun _ => ?_) (fun _ => ?_) | refine brN (fun _ => ?_) (fun _ => ?_) | refine brI (fun _ => ?_) (fun _ => ?_))
  have e : decide (idxI p xs 0 ≥ 0) = xs.any p := by
    show decide (0 ≤ _) = _
    simp only [idxI_nonneg]
    cases xs.any p <;> rfl
  rw [e]
  exact ⟨rfl, hx'⟩

theorem take_succ_eq {α : Type} {xs ys : List α} {k : Nat} {x y : α} (hx : xs[k]? = some x) (hy : ys[k]? = some y) (h : xs.take k = ys.take k) (he : x = y) : xs.take (k + 1) = ys.take (k + 1) := by
  rw [List.take_add_one, List.take_add_one, hx, hy, h, he]

theorem sameCells_ok (hx : Slc w 10 encCell G a n xs) (hy : Slc w 10 encCell G b m ys) :
    CallC Tryd.prog 20 #[.slice a n c, .slice b m d] w fun v w' => v = .bool (decide (xs = ys)) ∧ Ext No w w' := by
  have hm := hx.max
  have hl := hx.len
  have hl2 := hy.len
  refine fn_intro tabOk Tryd.func20 (by kernel_rfl) rfl Tryd.ntmps20 (Nat.le_of_ble_eq_true rfl) ?_
  have hS := St.start w No
  (conv => whnf)
  refine brND (fun h1 => ?_) (fun h1 => ?_)
  · repeat' ((conv => whnf); first | refine RetC.mk ?_ | refine NzC.mk (by decide) ?_ | refine RngC.mk (by omega) (by omega) ?_ | refine IdxC.mk (by omega) (by omega) ?_ | refine brD (fun _ => ?_) (fun _ => ?_) | refine brND (fun _ => ?_) (fun _ => ?_) | refine brN (fun _ => ?_) (fun _ => ?_) | refine brI (fun _ => ?_) (fun _ => ?_))
    refine ⟨?_, hS.ext⟩
    have : xs ≠ ys := fun e => h1 (by rw [← hl, ← hl2, e])
    simp [this]
  have hnm : n = m := by omega
  subst hnm
  (conv => whnf)
  refine loopR tabOk (fun σ w' q => ∃ k : Nat, σ = [(5, .int .i64 k), (1, .slice b n d), (0, .slice a n c)] ∧ q = n - k ∧ k ≤ n ∧ St w No w' [] ∧ xs.take k = ys.take k)
    (σ' := [(5, .int .i64 ((0 : Nat) : Int)), (1, .slice b n d), (0, .slice a n c)]) (n := n) ⟨rfl, rfl, rfl, trivial⟩ ⟨0, rfl, rfl, Nat.zero_le _, hS, rfl⟩ ?_
  clear hS
  rintro _ w1 q ⟨k, rfl, rfl, hk, hS, hi⟩
  (conv => whnf)
  refine brD (fun h3 => ?_) (fun h3 => ?_)
  · obtain ⟨b0, o0, x, hxk, _, rfl, _, hc⟩ := hx.at (k := k) (by omega)
    obtain ⟨b1, o1, y, hyk, _, rfl, _, hd⟩ := hy.at (k := k) (by omega)
    repeat' ((conv => whnf); first | refine RetC.mk ?_ | refine NzC.mk (by decide) ?_ | refine RngC.mk (by omega) (by omega) ?_ | refine IdxC.mk (by omega) (by omega) ?_ | (refine drawL tabOk mixed [] No [0, 1, 2, 3, 4, 5, 6, 7, 8] rfl (by kernel_rfl) ?_; rintro w1 rfl; replace hS := hS.drew) | refine hS.larF (l := encCell x) rfl hc id id ?_ | refine hS.larF (l := encCell y) rfl hd id id ?_ | refine neCell ?_ | refine brD (fun _ => ?_) (fun _ => ?_) | refine brND (fun _ => ?_) (fun _ => ?_) | refine brN (fun _ => ?_) (fun _ => ?_) | refine brI (fun _ => ?_) (fun _ => ?_))
    · rename_i h4
      refine ⟨?_, hS.ext⟩
      have : xs ≠ ys := fun e => h4 (by subst e; exact Option.some.inj (hxk.symm.trans hyk))
      simp [this]
    · rename_i h4
      refine LoopE.mk ⟨_, [(5, .int .i64 ((k + 1 : Nat) : Int)), (1, _), (0, _)], ?_, ⟨rfl, rfl, rfl, trivial⟩, ⟨k + 1, rfl, rfl, by omega, hS, take_succ_eq hxk hyk hi h4⟩⟩
      omega
  · repeat' ((conv => whnf); first | refine RetC.mk ?_ | refine NzC.mk (by decide) ?_ | refine RngC.mk (by omega) (by omega) ?_ | refine IdxC.mk (by omega) (by omega) ?_ | refine brD (fun _ => ?_) (fun _ => ?_) | refine brND (fun _ => ?_) (fun _ => ?_) | refine brN (fun _ => ?_) (fun _ => ?_) | refine brI (fun _ => ?_) (fun _ => ?_))
    have : k = n := by omega
    subst this
    rw [List.take_of_length_le (by omega), List.take_of_length_le (by omega)] at hi
    exact ⟨by simp [hi], hS.ext⟩

theorem equal_ok (hx : Slc w 10 encCell G a n xs) (hy : Slc w 10 encCell G b m ys) :
    CallC Tryd.prog 70 #[.slice a n c, .slice b m d] w fun v w' => v = .bool (decide (xs = ys)) ∧ Ext No w w' := by
  have hm := hx.max
  have hl := hx.len
  have hl2 := hy.len
  refine fn_intro tabOk Tryd.func70 (by kernel_rfl) rfl Tryd.ntmps70 (Nat.le_of_ble_eq_true rfl) ?_
  have hS := St.start w No
  (conv => whnf)
  refine brND (fun h1 => ?_) (fun h1 => ?_)
  · repeat' ((conv => whnf); first | refine RetC.mk ?_ | refine NzC.mk (by decide) ?_ | refine RngC.mk (by omega) (by omega) ?_ | refine IdxC.mk (by omega) (by omega) ?_ | refine brD (fun _ => ?_) (fun _ => ?_) | refine brND (fun _ => ?_) (fun _ => ?_) | refine brN (fun _ => ?_) (fun _ => ?_) | refine brI (fun _ => ?_) (fun _ => ?_))
    refine ⟨?_, hS.ext⟩
    have : xs ≠ ys := fun e => h1 (by rw [← hl, ← hl2, e])
    simp [this]
  have hnm : n = m := by omega
  subst hnm
  (conv => whnf)
  refine loopR tabOk (fun σ w' q => ∃ k : Nat, σ = [(13, .int .i64 k), (12, .int .i64 n), (1, .slice b n d), (0, .slice a n c)] ∧ q = n - k ∧ k ≤ n ∧ St w No w' [] ∧ xs.take k = ys.take k)
    (σ' := [(13, .int .i64 ((0 : Nat) : Int)), (12, .int .i64 n), (1, .slice b n d), (0, .slice a n c)]) (n := n) ⟨rfl, rfl, rfl, rfl, trivial⟩ ⟨0, rfl, rfl, Nat.zero_le _, hS, rfl⟩ ?_
  clear hS
  rintro _ w1 q ⟨k, rfl, rfl, hk, hS, hi⟩
  (conv => whnf)
  refine brD (fun h3 => ?_) (fun h3 => ?_)
  · obtain ⟨b0, o0, x, hxk, _, rfl, _, hc⟩ := hx.at (k := k) (by omega)
    obtain ⟨b1, o1, y, hyk, _, rfl, _, hd⟩ := hy.at (k := k) (by omega)
    repeat' ((conv => whnf); first | refine RetC.mk ?_ | refine NzC.mk (by decide) ?_ | refine RngC.mk (by omega) (by omega) ?_ | refine IdxC.mk (by omega) (by omega) ?_ | (refine drawL tabOk mixed [] No [0, 1, 2, 3, 4, 5, 6, 7, 8] rfl (by kernel_rfl) ?_; rintro w1 rfl; replace hS := hS.drew) | refine hS.larF (l := encCell x) rfl hc id id ?_ | refine hS.larF (l := encCell y) rfl hd id id ?_ | refine neCell ?_ | refine brD (fun _ => ?_) (fun _ => ?_) | refine brND (fun _ => ?_) (fun _ => ?_) | refine brN (fun _ => ?_) (fun _ => ?_) | refine brI (fun _ => ?_) (fun _ => ?_))
    · rename_i h4
      refine ⟨?_, hS.ext⟩
      have : xs ≠ ys := fun e => h4 (by subst e; exact Option.some.inj (hxk.symm.trans hyk))
      simp [this]
    · rename_i h4
      refine LoopE.mk ⟨_, [(13, .int .i64 ((k + 1 : Nat) : Int)), (12, _), (1, _), (0, _)], ?_, ⟨rfl, rfl, rfl, rfl, trivial⟩, ⟨k + 1, rfl, rfl, by omega, hS, take_succ_eq hxk hyk hi h4⟩⟩
      omega
  · repeat' ((conv => whnf); first | refine RetC.mk ?_ | refine NzC.mk (by decide) ?_ | refine RngC.mk (by omega) (by omega) ?_ | refine IdxC.mk (by omega) (by omega) ?_ | refine brD (fun _ => ?_) (fun _ => ?_) | refine brND (fun _ => ?_) (fun _ => ?_) | refine brN (fun _ => ?_) (fun _ => ?_) | refine brI (fun _ => ?_) (fun _ => ?_))
    have : k = n := by omega
    subst this
    rw [List.take_of_length_le (by omega), List.take_of_length_le (by omega)] at hi
    exact ⟨by simp [hi], hS.ext⟩
end
theorem sameCells_same {w : World} {G : CellS → Prop} {a b : Option Addr} {n m c d : Nat} {xs : List CellS} (hx : Slc w 10 encCell G a n xs) (hy : Slc w 10 encCell G b m xs) :
    CallC Tryd.prog 20 #[.slice a n c, .slice b m d] w fun v w' => v = .bool true ∧ Ext No w w' := by
  have h := sameCells_ok (c := c) (d := d) hx hy
  rwa [decide_eq_true rfl] at h
theorem Ev.St.ownNe {w0 w : World} {S : Nat → Prop} {H : List Ent} (h : St w0 S w H) (i j : Nat) {α : Type} {b : Nat} {t e : TypeId} {cs : List Value} {sz n c : Nat} {enc : α → List Value} {a : Option Addr} {xs : List α} (hi : H[i]? = some (Ev.blk b t cs)) (hj : H[j]? = some (ownL e sz enc (.slice a n c) xs)) (hne : i ≠ j) : ∀ b0 o0, a = some ⟨b0, o0, none⟩ → b0 ≠ b := by
  rintro b0 o0 rfl rfl
  have := pairwise_at apart_symm h.apart hi hj hne b0 (by simp [Ev.blk])
  simp [ownL, own, Value.ownBlock] at this
end Go.Proofs.YteakdmngllfodaaDoor
