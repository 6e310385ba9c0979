
/-
  PolicyFirst and PolicyShadow return true whatever their arguments.
-/
import Derived.Test.YtakdekkieobbaaaDoorPolicyS
import Derived.Test.YtakdekkieobbaaaDoorPolicyT
namespace Go.Proofs.YtakdekkieobbaaaDoor
open Go Ev

def RuleS.I (r : RuleS) : Prop := I64 r.proto ∧ I64 r.low ∧ I64 r.top
def PktS.I (p : PktS) : Prop := I64 p.proto ∧ I64 p.sa ∧ I64 p.sp ∧ I64 p.da ∧ I64 p.dp ∧ I64 p.flags
theorem rule_of {ps : List Pr} (hk : ps.map Pr.k = [.bool, .bool, .int, .int, .int]) (hok : ∀ p ∈ ps, p.ok) : ∃ r : RuleS, ps.map Pr.v = encRule r ∧ r.I := by
  obtain ⟨p1, r, rfl, g1, hk⟩ := kinds_cons hk
  obtain ⟨p2, r, rfl, g2, hk⟩ := kinds_cons hk
  obtain ⟨p3, r, rfl, g3, hk⟩ := kinds_cons hk
  obtain ⟨p4, r, rfl, g4, hk⟩ := kinds_cons hk
  obtain ⟨p5, r, rfl, g5, hk⟩ := kinds_cons hk
  obtain rfl := kinds_nil hk
  obtain ⟨n1, rfl⟩ := k_bool g1
  obtain ⟨n2, rfl⟩ := k_bool g2
  obtain ⟨n3, rfl⟩ := k_int g3
  obtain ⟨n4, rfl⟩ := k_int g4
  obtain ⟨n5, rfl⟩ := k_int g5
  exact ⟨⟨n1, n2, n3, n4, n5⟩, rfl, hok (.int n3) (by simp), hok (.int n4) (by simp), hok (.int n5) (by simp)⟩
theorem pkt_of {ps : List Pr} (hk : ps.map Pr.k = [.int, .int, .int, .int, .int, .int]) (hok : ∀ p ∈ ps, p.ok) : ∃ r : PktS, ps.map Pr.v = encPkt r ∧ r.I := by
  obtain ⟨p1, r, rfl, g1, hk⟩ := kinds_cons hk
  obtain ⟨p2, r, rfl, g2, hk⟩ := kinds_cons hk
  obtain ⟨p3, r, rfl, g3, hk⟩ := kinds_cons hk
  obtain ⟨p4, r, rfl, g4, hk⟩ := kinds_cons hk
  obtain ⟨p5, r, rfl, g5, hk⟩ := kinds_cons hk
  obtain ⟨p6, r, rfl, g6, hk⟩ := kinds_cons hk
  obtain rfl := kinds_nil hk
  obtain ⟨n1, rfl⟩ := k_int g1
  obtain ⟨n2, rfl⟩ := k_int g2
  obtain ⟨n3, rfl⟩ := k_int g3
  obtain ⟨n4, rfl⟩ := k_int g4
  obtain ⟨n5, rfl⟩ := k_int g5
  obtain ⟨n6, rfl⟩ := k_int g6
  exact ⟨⟨n1, n2, n3, n4, n5, n6⟩, rfl, hok (.int n1) (by simp), hok (.int n2) (by simp), hok (.int n3) (by simp), hok (.int n4) (by simp), hok (.int n5) (by simp), hok (.int n6) (by simp)⟩
theorem dec_rule {w : World} {d : Nat} (hd : 10 ≤ d) : Dec Tryd.prog w d 24 encRule RuleS.I := by
  intro cs h
  have h1 : flatK Tryd.prog 10 24 = some [.bool, .bool, .int, .int, .int] := by kernel_rfl
  have h2 : Tryd.prog.cellsOf 24 = 5 := by kernel_rfl
  obtain ⟨ps, rfl, hk, hok⟩ := shp_flat 10 d _ _ cs h1 hd h2 h
  obtain ⟨r, hr, hI⟩ := rule_of hk hok
  exact ⟨r, hr, hI⟩
theorem arg_rule {W : World} {v : Value} (h : ArgOk Tryd.prog W 24 v) : ∃ r : RuleS, v = .agg (encRule r).toArray ∧ r.I := by
  obtain ⟨ps, rfl, hk, hok⟩ := arg_flat Tryd.underlying24 (by kernel_rfl : flatK Tryd.prog 10 24 = some [.bool, .bool, .int, .int, .int]) (by kernel_rfl) h
  obtain ⟨r, hr, hI⟩ := rule_of hk hok
  exact ⟨r, by rw [hr], hI⟩
theorem arg_pkt {W : World} {v : Value} (h : ArgOk Tryd.prog W 28 v) : ∃ r : PktS, v = .agg (encPkt r).toArray ∧ r.I := by
  obtain ⟨ps, rfl, hk, hok⟩ := arg_flat Tryd.underlying28 (by kernel_rfl : flatK Tryd.prog 10 28 = some [.int, .int, .int, .int, .int, .int]) (by kernel_rfl) h
  obtain ⟨r, hr, hI⟩ := pkt_of hk hok
  exact ⟨r, by rw [hr], hI⟩

/-! ### A rule ahead of all -/
theorem good_one {r : RuleS} : GoodR [r] ↔ r.bad = false := by simp [GoodR]
theorem good_cons {r : RuleS} {l : List RuleS} (h1 : GoodR [r]) (h2 : GoodR l) (h : l.length < 20) : GoodR (r :: l) := by
  refine ⟨by simp; omega, fun x hx => ?_⟩
  rcases List.mem_cons.1 hx with rfl | hx
  · exact good_one.1 h1
  · exact h2.2 x hx
theorem admits_cons {r : RuleS} {l : List RuleS} {proto port : Int} {out : Bool} : admitsL proto port out (r :: l) = if r.fits proto port out = true then r.allow else admitsL proto port out l := by
  show (match r.fits proto port out with | true => r.allow | false => admitsL proto port out l) = _
  cases r.fits proto port out <;> rfl
theorem FaultV.nil {E : Nat → Addr} {w0 w : World} {v : Value} {c : Nat} {a : Int} (h : FaultV E w0 w v c a) (hc : c = 0) : v = .nilIface := by
  subst hc
  rcases h with ⟨_, h⟩ | ⟨_, h, _⟩
  · exact h
  · omega
theorem FaultV.some {E : Nat → Addr} {w0 w : World} {v : Value} {c : Nat} {a : Int} (h : FaultV E w0 w v c a) (hc : c ≠ 0) : ∃ t u, v = .iface t u := by
  obtain ⟨j, rfl⟩ : ∃ j, c = j + 1 := ⟨c - 1, by omega⟩
  exact h.ne

theorem policyFirst_ok {E : Nat → Addr} (W : World) (hE : Errs W E W.heap.size [2, 3]) (ht : Pow10 W) (hP : Protos W) (a0 : Option Addr) (n0 c0 : Nat) (l : List RuleS) (hx : Slc W 5 encRule RuleS.I a0 n0 l) (r : RuleS) (p : PktS) (out : Bool) :
    CallC Tryd.prog 3 #[.slice a0 n0 c0, .agg (encRule r).toArray, .agg (encPkt p).toArray, .bool out] W fun v w' => v = .bool true ∧ Ext No W w' := by
  have hl := hx.len
  have hg := @fault_good l
  have hg1 := @fault_good [r]
  have hg2 := @fault_good (r :: l)
  refine fn_intro tabOk Tryd.func3 (by kernel_rfl) rfl Tryd.ntmps3 (Nat.le_of_ble_eq_true rfl) ?_
  have hS := St.start W No
  (conv => whnf)
  refine hS.new (fun br w' hbr hS => ?_)
  (conv => whnf)
  refine hS.new (fun bp w' hbp hS => ?_)
  replace hS : St W No w' [blk br 24 (encRule r), blk bp 28 (encPkt p)] := hS
  repeat' ((conv => whnf); first | refine RetC.mk ?_ | refine NzC.mk (by decide) ?_ | refine RngC.mk (by omega) (by omega) ?_ | refine IdxC.mk (by omega) (by omega) ?_ | refine hS.ld 0 rfl rfl ?_ | refine hS.ld 1 rfl rfl ?_ | refine hS.laX 0 rfl rfl ?_ | refine hS.laX 1 rfl rfl ?_ | (refine (ruled_ok _ (hE.ext hS.ext fun _ h => h.elim) (ht.no hS.ext) (hP.no hS.ext)).mono ?_; rintro v w' ⟨rfl, hx'⟩; replace hS := hS.no hx'; clear hx') | (refine (perror_ok p _).mono ?_; rintro v w' ⟨rfl, hx'⟩; replace hS := hS.no hx'; clear hx') | refine brD (fun _ => ?_) (fun _ => ?_) | refine brND (fun _ => ?_) (fun _ => ?_) | refine brN (fun _ => ?_) (fun _ => ?_) | refine brI (fun _ => ?_) (fun _ => ?_))
  · exact ⟨rfl, hS.ext⟩
  · exact ⟨rfl, hS.ext⟩
  rename_i h1 w2 hS h2
  have hp0 : p.err = 0 := by omega
  have h20 : l.length < 20 := by omega
  clear h1 h2
  (conv => whnf)
  (refine drawS tabOk mixed [] (No) [0, 2, 3, 1, 4, 5, 6, 7, 8, 9] (by kernel_rfl) ?_; rintro w1 rfl; replace hS := hS.drew)
  (conv => whnf)
  refine hS.laXF 1 rfl rfl id ?_
  (conv => whnf)
  refine (ownRules_ok (hx.no hS.ext) (by omega)).mono ?_
  rintro v w3 ⟨a1, c1, rfl, hx1, ho, hf⟩
  replace hS := hS.madeL hx1 ho hf
  refine KeepC.mk hx1 ?_
  have hz := ownL_slc (G := fun _ => True) codRule (hS.get 2 rfl) fun _ _ => trivial
  (conv => whnf)
  refine (admitsP_ok (q := W.heap.size) hz p out (hE.ext hS.ext fun _ h => h.elim)).mono ?_
  rintro v w4 ⟨⟨e, rfl, hfa⟩, hx2⟩
  replace hS := hS.no hx2
  refine KeepC.mk (hx1.trans hx2) ?_
  clear hx1 hx2 ho hf hz
  by_cases hgl : GoodR l
  rotate_left
  · obtain ⟨t, u, rfl⟩ := hfa.some (by rw [if_neg (fun h => hgl (hg.1 h))]; exact fun h => hgl (hg.1 h))
    repeat' ((conv => whnf); first | refine RetC.mk ?_ | refine NzC.mk (by decide) ?_ | refine RngC.mk (by omega) (by omega) ?_ | refine IdxC.mk (by omega) (by omega) ?_ | refine brD (fun _ => ?_) (fun _ => ?_) | refine brND (fun _ => ?_) (fun _ => ?_) | refine brN (fun _ => ?_) (fun _ => ?_) | refine brI (fun _ => ?_) (fun _ => ?_))
    exact ⟨rfl, hS.ext⟩
  obtain rfl := hfa.nil (by rw [if_pos (hg.2 hgl)]; exact hp0)
  rw [decide_eq_true ⟨hgl, hp0⟩, Bool.true_and]
  clear hfa
  replace hS := hS.keep 2
  repeat' ((conv => whnf); first | refine RetC.mk ?_ | refine NzC.mk (by decide) ?_ | refine RngC.mk (by omega) (by omega) ?_ | refine IdxC.mk (by omega) (by omega) ?_ | refine hS.ld 0 rfl rfl ?_ | refine hS.ld 1 rfl rfl ?_ | refine hS.laX 0 rfl rfl ?_ | refine hS.laX 1 rfl rfl ?_ | refine hS.lit (cs := encRule r) Tryd.underlying22 (sz := 5) (by kernel_rfl) (z := .agg (encRule noRule).toArray) (by kernel_rfl) rfl rfl (by rfl) (fun b w' hb hS => ?_) | refine brD (fun _ => ?_) (fun _ => ?_) | refine brND (fun _ => ?_) (fun _ => ?_) | refine brN (fun _ => ?_) (fun _ => ?_) | refine brI (fun _ => ?_) (fun _ => ?_))
  have hz : Slc w' 5 encRule (fun _ => True) (some ⟨b, 0, none⟩) 1 [r] := Slc.of_blk codRule (hS.blk 2 rfl) rfl (by decide) (fun _ _ => trivial) rfl
  refine (rcheck_ok (q := W.heap.size) hz ((hE.sub rfl).ext hS.ext fun _ h => h.elim)).mono ?_
  rintro v w5 ⟨hfa, hx1⟩
  replace hS := hS.no hx1
  by_cases hgr : GoodR [r]
  rotate_left
  · obtain ⟨t, u, rfl⟩ := hfa.some (fun h => hgr (hg1.1 h))
    clear hz hfa hx1
    repeat' ((conv => whnf); first | refine RetC.mk ?_ | refine NzC.mk (by decide) ?_ | refine RngC.mk (by omega) (by omega) ?_ | refine IdxC.mk (by omega) (by omega) ?_ | refine hS.ld 0 rfl rfl ?_ | refine hS.ld 1 rfl rfl ?_ | refine hS.laX 0 rfl rfl ?_ | refine hS.laX 1 rfl rfl ?_ | refine hS.lit (cs := encRule r) Tryd.underlying22 (sz := 5) (by kernel_rfl) (z := .agg (encRule noRule).toArray) (by kernel_rfl) rfl rfl (by rfl) (fun b w' hb hS => ?_) | refine brD (fun _ => ?_) (fun _ => ?_) | refine brND (fun _ => ?_) (fun _ => ?_) | refine brN (fun _ => ?_) (fun _ => ?_) | refine brI (fun _ => ?_) (fun _ => ?_))
    have hz : Slc w' 5 encRule (fun _ => True) (some ⟨b, 0, none⟩) 1 [r] := Slc.of_blk codRule (hS.blk 3 rfl) rfl (by decide) (fun _ _ => trivial) rfl
    refine (rcheck_ok (q := W.heap.size) hz ((hE.sub rfl).ext hS.ext fun _ h => h.elim)).mono ?_
    rintro v w6 ⟨hfa, hx1⟩
    replace hS := hS.no hx1
    obtain ⟨t2, u2, rfl⟩ := hfa.some (fun h => hgr (hg1.1 h))
    repeat' ((conv => whnf); first | refine RetC.mk ?_ | refine NzC.mk (by decide) ?_ | refine RngC.mk (by omega) (by omega) ?_ | refine IdxC.mk (by omega) (by omega) ?_ | refine brD (fun _ => ?_) (fun _ => ?_) | refine brND (fun _ => ?_) (fun _ => ?_) | refine brN (fun _ => ?_) (fun _ => ?_) | refine brI (fun _ => ?_) (fun _ => ?_))
    exact ⟨rfl, hS.ext⟩
  obtain rfl := hfa.nil (hg1.2 hgr)
  clear hfa hx1 hz
  replace hS := hS.keep 2
  have hgc : GoodR (r :: l) := good_cons hgr hgl h20
  (conv => whnf)
  have lr : ¬ w5.heap.size ≤ br := by
    have := (hS.may _ (List.mem_of_getElem? (i := 0) rfl) br (by simp [blk])).2
    omega
  have lp : ¬ w5.heap.size ≤ bp := by
    have := (hS.may _ (List.mem_of_getElem? (i := 1) rfl) bp (by simp [blk])).2
    omega
  (refine drawS tabOk mixed [] (fun q => w5.heap.size ≤ q) [0, 2, 4, 5, 1, 3, 6, 7, 8, 9, 10, 11] (by kernel_rfl) ?_; rintro w1 rfl; replace hS := hS.drew)
  (conv => whnf)
  refine hS.laXF 0 rfl rfl lr ?_
  (conv => whnf)
  refine hS.laXF 1 rfl rfl lp ?_
  (conv => whnf)
  refine hS.litX (cs := encRule r) Tryd.underlying22 (sz := 5) (by kernel_rfl) (z := .agg (encRule noRule).toArray) (by kernel_rfl) rfl rfl (by rfl) (fun b2 w' hb2 hx1 hS => ?_)
  refine KeepC.mk hx1.of_no ?_
  replace hS := hS.lit_own codRule 2 rfl [r] 1 rfl (by decide) (by simp)
  (conv => whnf)
  refine hS.appX codRule 2 Tryd.underlying22 (bytes := 32) (by kernel_rfl) (z := .agg (encRule noRule).toArray) (by kernel_rfl) rfl rfl (hx.no hS.ext) (by unfold maxLen; simp; omega) (by simp; omega) (fun a3 c3 w' hx2 hS => ?_)
  have hx2' : Ext (fun q => w5.heap.size ≤ q) _ w' := hx2.mono fun q hq => by
    obtain rfl : b2 = q := by simpa [Value.ownBlock] using hq
    exact hb2
  refine KeepC.mk (hx1.of_no.trans hx2') ?_
  rw [show [r].length + n0 = n0 + 1 by simp; omega] at hS ⊢
  have hz := ownL_slc (G := fun _ => True) codRule (hS.get 2 rfl) fun _ _ => trivial
  (conv => whnf)
  refine (admitsP_ok (q := W.heap.size) hz p out (hE.ext hS.ext fun _ h => h.elim)).mono ?_
  rintro v w6 ⟨⟨e, rfl, hfa⟩, hx3⟩
  replace hS := hS.no hx3
  refine KeepC.mk ((hx1.of_no.trans hx2').trans hx3.of_no) ?_
  obtain rfl := hfa.nil (by rw [show [r] ++ l = r :: l from rfl, if_pos (hg2.2 hgc)]; exact hp0)
  rw [show [r] ++ l = r :: l from rfl, decide_eq_true ⟨hgc, hp0⟩, Bool.true_and, admits_cons]
  clear hx1 hx2 hx2' hx3 hfa hz
  replace hS := hS.keep 2
  repeat' ((conv => whnf); first | refine RetC.mk ?_ | refine NzC.mk (by decide) ?_ | refine RngC.mk (by omega) (by omega) ?_ | refine IdxC.mk (by omega) (by omega) ?_ | refine hS.ld 0 rfl rfl ?_ | refine hS.ld 1 rfl rfl ?_ | refine hS.laX 0 rfl rfl ?_ | refine hS.laX 1 rfl rfl ?_ | refine brD (fun _ => ?_) (fun _ => ?_) | refine brND (fun _ => ?_) (fun _ => ?_) | refine brN (fun _ => ?_) (fun _ => ?_) | refine brI (fun _ => ?_) (fun _ => ?_))
  all_goals
    refine ⟨congrArg Value.bool ?_, hS.ext⟩
    clear hS
    first
      | (rw [if_pos (by simp_all [RuleS.fits] <;> omega)]; simp; done)
      | (rw [if_neg (by simp_all [RuleS.fits] <;> intros <;> omega)]; simp; done)
      | trace_state

/-! ### A rule behind one that has all that it has -/
theorem admits_app {proto port : Int} {out : Bool} : ∀ (xs : List RuleS) {ys zs : List RuleS}, admitsL proto port out ys = admitsL proto port out zs → admitsL proto port out (xs ++ ys) = admitsL proto port out (xs ++ zs)
  | [], _, _, h => h
  | x :: xs, _, _, h => by
    rw [List.cons_append, List.cons_append, admits_cons, admits_cons, admits_app xs h]
theorem admits_shadow {proto port : Int} {out : Bool} {r b : RuleS} {ys : List RuleS} (h : b.fits proto port out = true → r.fits proto port out = true) : admitsL proto port out (r :: b :: ys) = admitsL proto port out (r :: ys) := by
  rw [admits_cons, admits_cons, admits_cons]
  split
  · rfl
  · rename_i hr
    rw [if_neg (fun hb => hr (h hb))]
def Shadow (r b : RuleS) : Prop := b.bad = false ∧ b.out = r.out ∧ (b.proto = r.proto ∨ r.proto = 0) ∧ r.low ≤ b.low ∧ b.top ≤ r.top
theorem shadow_fits {r b : RuleS} (h : Shadow r b) (proto port : Int) (out : Bool) (hb : b.fits proto port out = true) : r.fits proto port out = true := by
  obtain ⟨_, h1, h2, h3, h4⟩ := h
  unfold RuleS.fits at hb ⊢
  have hb := of_decide_eq_true hb
  apply decide_eq_true
  refine ⟨by rw [← h1]; exact hb.1, ?_, by omega, by omega⟩
  rcases h2 with h2 | h2
  · rw [← h2]; exact hb.2.1
  · exact .inl h2
theorem shadow_same {l : List RuleS} {k : Nat} {r b : RuleS} (hr : l[k]? = some r) (h : Shadow r b) : SameL l (l.take (k + 1) ++ [b] ++ l.drop (k + 1)) := by
  intro p _ _ proto _ out
  have e1 : l = l.take k ++ r :: l.drop (k + 1) := by
    obtain ⟨lt, e⟩ := List.getElem?_eq_some_iff.1 hr
    rw [← e, ← List.drop_eq_getElem_cons lt, List.take_append_drop]
  have e2 : l.take (k + 1) ++ [b] ++ l.drop (k + 1) = l.take k ++ r :: b :: l.drop (k + 1) := by
    rw [List.take_add_one, hr]
    simp
  rw [e2]
  conv => lhs; rw [e1]
  exact admits_app _ (admits_shadow (shadow_fits h proto p out)).symm
theorem shadow_good {l : List RuleS} {k : Nat} {r b : RuleS} (hg : GoodR l) (hl : l.length < 20) (h : Shadow r b) : GoodR (l.take (k + 1) ++ [b] ++ l.drop (k + 1)) := by
  refine ⟨?_, fun x hx => ?_⟩
  · simp only [List.length_append, List.length_take, List.length_drop, List.length_cons, List.length_nil]
    omega
  · simp only [List.mem_append, List.mem_singleton] at hx
    rcases hx with (hx | rfl) | hx
    · exact hg.2 x (List.mem_of_mem_take hx)
    · exact h.1
    · exact hg.2 x (List.mem_of_mem_drop hx)
theorem policyShadow_ok {E : Nat → Addr} (W : World) (hE : Errs W E W.heap.size [2, 3]) (ht : Pow10 W) (hP : Protos W) (a0 : Option Addr) (n0 c0 : Nat) (l : List RuleS) (hx : Slc W 5 encRule RuleS.I a0 n0 l) (hnc : n0 ≤ c0) (k : Int) (e : RuleS) :
    CallC Tryd.prog 4 #[.slice a0 n0 c0, .int .i64 k, .agg (encRule e).toArray] W fun v w' => v = .bool true ∧ Ext No W w' := by
  have hl := hx.len
  have hg := @fault_good l
  refine fn_intro tabOk Tryd.func4 (by kernel_rfl) rfl Tryd.ntmps4 (Nat.le_of_ble_eq_true rfl) ?_
  have hS := St.start W No
  (conv => whnf)
  refine hS.new (fun be w' hbe hS => ?_)
  repeat' ((conv => whnf); first | refine RetC.mk ?_ | refine NzC.mk (by decide) ?_ | refine RngC.mk (by omega) (by omega) ?_ | refine IdxC.mk (by omega) (by omega) ?_ | (refine (ruled_ok _ (hE.ext hS.ext fun _ h => h.elim) (ht.no hS.ext) (hP.no hS.ext)).mono ?_; rintro v w' ⟨rfl, hx'⟩; replace hS := hS.no hx'; clear hx') | refine brD (fun _ => ?_) (fun _ => ?_) | refine brND (fun _ => ?_) (fun _ => ?_) | refine brN (fun _ => ?_) (fun _ => ?_) | refine brI (fun _ => ?_) (fun _ => ?_))
  · exact ⟨rfl, hS.ext⟩
  · exact ⟨rfl, hS.ext⟩
  · exact ⟨rfl, hS.ext⟩
  · exact ⟨rfl, hS.ext⟩
  rename_i h1 h2 h3 h4
  refine (ownRules_ok (hx.no hS.ext) (by omega)).mono ?_
  rintro v w3 ⟨a1, c1, rfl, hx1, ho, hf⟩
  replace hS := hS.madeL hx1 ho hf
  have hz := ownL_slc (G := fun _ => True) codRule (hS.get 1 rfl) fun _ _ => trivial
  clear hx1 ho hf
  (conv => whnf)
  refine (rcheck_ok (q := W.heap.size) hz ((hE.sub rfl).ext hS.ext fun _ h => h.elim)).mono ?_
  rintro v w5 ⟨hfa, hx1⟩
  replace hS := hS.no hx1
  rcases Decidable.em (GoodR l) with hgl | hgl
  rotate_left
  · obtain ⟨t, u, rfl⟩ := hfa.some (fun h => hgl (hg.1 h))
    repeat' ((conv => whnf); first | refine RetC.mk ?_ | refine NzC.mk (by decide) ?_ | refine RngC.mk (by omega) (by omega) ?_ | refine IdxC.mk (by omega) (by omega) ?_ | refine brD (fun _ => ?_) (fun _ => ?_) | refine brND (fun _ => ?_) (fun _ => ?_) | refine brN (fun _ => ?_) (fun _ => ?_) | refine brI (fun _ => ?_) (fun _ => ?_))
    exact ⟨rfl, hS.ext⟩
  obtain rfl := hfa.nil (hg.2 hgl)
  clear hfa hx1 hz
  replace hS := hS.keep 1
  obtain ⟨j, rfl⟩ := Int.eq_ofNat_of_zero_le (show 0 ≤ k by omega)
  obtain ⟨b0, o0, r, hrk, _, rfl, _, hc⟩ := hx.at (k := j) (by omega)
  have hbr : ¬ (r.proto < 0 ∨ r.proto > 2 ∨ r.low < 1 ∨ r.low > r.top ∨ r.top > 65535) := of_decide_eq_false (hgl.2 r (List.mem_of_getElem? hrk))
  (conv => whnf)
  refine IdxC.mk (by omega) (by omega) ?_
  (conv => whnf)
  refine hS.lar (l := encRule r) rfl hc id ?_
  (conv => whnf)
  refine hS.new (fun b8 w' hb8 hS => ?_)
  (conv => whnf)
  refine hS.st 1 rfl (Nat.le_of_ble_eq_true rfl) rfl (fun w' hS => ?_)
  (conv => whnf)
  refine hS.laX 1 rfl rfl ?_
  (conv => whnf)
  refine hS.new (fun b9 w' hb9 hS => ?_)
  (conv => whnf)
  refine hS.st 2 rfl (Nat.le_of_ble_eq_true rfl) rfl (fun w' hS => ?_)
  replace hS : St W No w' [blk be 24 (encRule e), blk b8 24 (encRule r), blk b9 24 (encRule r)] := hS
  (conv => whnf)
  refine hS.ld 0 rfl rfl ?_
  (conv => whnf)
  refine hS.st 2 rfl (Nat.le_of_ble_eq_true rfl) rfl (fun w' hS => ?_)
  replace hS : St W No w' [blk be 24 (encRule e), blk b8 24 (encRule r), blk b9 24 (encRule ⟨e.allow, r.out, r.proto, r.low, r.top⟩)] := hS
  repeat' ((conv => whnf); first | refine RetC.mk ?_ | refine NzC.mk (by decide) ?_ | refine RngC.mk (by omega) (by omega) ?_ | refine IdxC.mk (by omega) (by omega) ?_ | refine hS.ld 0 rfl rfl ?_ | refine hS.ld 1 rfl rfl ?_ | refine hS.ld 2 rfl rfl ?_ | refine hS.laX 0 rfl rfl ?_ | refine hS.laX 1 rfl rfl ?_ | refine hS.laX 2 rfl rfl ?_ | refine hS.st 2 rfl (Nat.le_of_ble_eq_true rfl) rfl (fun w' hS => ?_) | refine brD (fun _ => ?_) (fun _ => ?_) | refine brND (fun _ => ?_) (fun _ => ?_) | refine brN (fun _ => ?_) (fun _ => ?_) | refine brI (fun _ => ?_) (fun _ => ?_))
  all_goals
    obtain ⟨bb, hS, hsh⟩ : ∃ bb : RuleS, St W No _ [blk be 24 (encRule e), blk b8 24 (encRule r), blk b9 24 (encRule bb)] ∧ Shadow r bb := by
      first | refine ⟨⟨e.allow, r.out, e.proto, e.low, e.top⟩, hS, ?_⟩ | refine ⟨⟨e.allow, r.out, e.proto, r.low, r.top⟩, hS, ?_⟩ | refine ⟨⟨e.allow, r.out, r.proto, e.low, e.top⟩, hS, ?_⟩ | refine ⟨⟨e.allow, r.out, r.proto, r.low, r.top⟩, hS, ?_⟩
      clear hS hc hx hE ht hP hrk hgl
      simp_all [Shadow, RuleS.bad] <;> omega
    have hgm := shadow_good (k := j) hgl (by omega) hsh
    have hsm := shadow_same hrk hsh
    have hg2 := @fault_good (l.take (j + 1) ++ [bb] ++ l.drop (j + 1))
    have hS := hS.add (ownL_local (e := 24) (enc := encRule) (sz := 5) (v := .slice none 0 0) (xs := [])) (own_nil _ _ _) (by simp [ownL, own, Value.ownBlock]) (by simp [ownL, own, Value.ownBlock])
    refine slcHead (j := j + 1) (hx.no hS.ext) hnc Tryd.underlying22 (by kernel_rfl) (by omega) (by omega) (fun a3 c3 hz => ?_)
    (conv => whnf)
    refine hS.appS codRule 3 Tryd.underlying22 (bytes := 32) (by kernel_rfl) (z := .agg (encRule noRule).toArray) (by kernel_rfl) rfl rfl hz (by unfold maxLen; simp; omega) (by simp; omega) (fun a4 c4 w' hS => ?_)
    rw [show ([] : List RuleS).length + (j + 1) = j + 1 by simp, List.nil_append] at hS
    rw [show ([] : List RuleS).length + (j + 1) = j + 1 by simp]
    have hjl : (l.take (j + 1)).length = j + 1 := by rw [List.length_take]; omega
    (conv => whnf)
    refine hS.laX 2 rfl rfl ?_
    (conv => whnf)
    refine hS.lit (cs := encRule bb) Tryd.underlying22 (sz := 5) (by kernel_rfl) (z := .agg (encRule noRule).toArray) (by kernel_rfl) rfl rfl (by rfl) (fun bl w' hbl hS => ?_)
    (conv => whnf)
    refine hS.appS codRule 3 (ys := [bb]) (G := fun _ => True) Tryd.underlying22 (bytes := 32) (by kernel_rfl) (z := .agg (encRule noRule).toArray) (by kernel_rfl) rfl rfl (Slc.of_blk codRule (hS.blk 4 rfl) rfl (by decide) (fun _ _ => trivial) rfl) (by rw [hjl]; unfold maxLen; omega) (by rw [hjl]; omega) (fun a5 c5 w' hS => ?_)
    rw [hjl] at hS ⊢
    (conv => whnf)
    refine RngC.mk (by omega) (by omega) ?_
    (conv => whnf)
    refine slcTail (j := j + 1) (hx.no hS.ext) hnc Tryd.underlying22 (by kernel_rfl) (by kernel_rfl) (by omega) (by omega) (fun a6 c6 hz hn6 => ?_)
    (conv => whnf)
    refine hS.appS codRule 3 Tryd.underlying22 (bytes := 32) (by kernel_rfl) (z := .agg (encRule noRule).toArray) (by kernel_rfl) rfl rfl hz (by rw [List.length_append, hjl]; unfold maxLen; simp; omega) (by rw [List.length_append, hjl]; simp; omega) (fun a7 c7 w' hS => ?_)
    rw [show (l.take (j + 1) ++ [bb]).length + (n0 - (j + 1)) = n0 + 1 by rw [List.length_append, hjl]; simp; omega] at hS ⊢
    have hzm := ownL_slc (G := fun _ => True) codRule (hS.get 3 rfl) fun _ _ => trivial
    (conv => whnf)
    refine (ownRules_ok (hx.no hS.ext) (by omega)).mono ?_
    rintro v w3 ⟨a8, c8, rfl, hx1, ho, hf⟩
    replace hS := hS.madeL hx1 ho hf
    have hzo := ownL_slc (G := fun _ => True) codRule ho fun _ _ => trivial
    (conv => whnf)
    refine (same_ok (q := W.heap.size) hzo (hzm.no hx1) ((hE.sub rfl).ext hS.ext fun _ h => h.elim)).mono ?_
    rintro v w4 ⟨⟨sv, ev, rfl, hfa, hiff⟩, hx2⟩
    replace hS := hS.no hx2
    obtain rfl := hfa.nil (by rw [if_pos (hg.2 hgl)]; exact hg2.2 hgm)
    obtain rfl : sv = true := hiff.2 ⟨hgl, hgm, hsm⟩
    repeat' ((conv => whnf); first | refine RetC.mk ?_ | refine NzC.mk (by decide) ?_ | refine RngC.mk (by omega) (by omega) ?_ | refine IdxC.mk (by omega) (by omega) ?_ | refine brD (fun _ => ?_) (fun _ => ?_) | refine brND (fun _ => ?_) (fun _ => ?_) | refine brN (fun _ => ?_) (fun _ => ?_) | refine brI (fun _ => ?_) (fun _ => ?_))
    exact ⟨rfl, hS.ext⟩

/-! ### As the frame of a claim asks it -/
theorem policyFirst_walk {E : Nat → Addr} (W : World) (args : List Value) (hE : Errs W E W.heap.size [2, 3]) (ht : Pow10 W) (hP : Protos W) (ha : ArgsOk Tryd.prog W [22, 24, 28, 4] args) :
    CallC Tryd.prog 3 args.toArray W fun v w' => v = .bool true ∧ Ext No W w' := by
  obtain ⟨v0, args, rfl, h0, ha⟩ := ha.cons
  obtain ⟨v1, args, rfl, h1, ha⟩ := ha.cons
  obtain ⟨v2, args, rfl, h2, ha⟩ := ha.cons
  obtain ⟨v3, args, rfl, h3, ha⟩ := ha.cons
  obtain rfl := ha.nil
  obtain ⟨d, hd⟩ : ∃ d, 10 ≤ d := ⟨10, Nat.le_refl _⟩
  obtain ⟨a0, n0, c0, xs, rfl, hx, _⟩ := arg_slice (d := d) (sz := 5) Tryd.underlying22 (by kernel_rfl) (by decide) (dec_rule hd) h0
  obtain ⟨r, rfl, _⟩ := arg_rule h1
  obtain ⟨p, rfl, _⟩ := arg_pkt h2
  obtain ⟨out, rfl⟩ := arg_bool Tryd.underlying4 h3
  exact policyFirst_ok W hE ht hP a0 n0 c0 xs hx r p out
theorem policyShadow_walk {E : Nat → Addr} (W : World) (args : List Value) (hE : Errs W E W.heap.size [2, 3]) (ht : Pow10 W) (hP : Protos W) (ha : ArgsOk Tryd.prog W [22, 3, 24] args) :
    CallC Tryd.prog 4 args.toArray W fun v w' => v = .bool true ∧ Ext No W w' := by
  obtain ⟨v0, args, rfl, h0, ha⟩ := ha.cons
  obtain ⟨v1, args, rfl, h1, ha⟩ := ha.cons
  obtain ⟨v2, args, rfl, h2, ha⟩ := ha.cons
  obtain rfl := ha.nil
  obtain ⟨d, hd⟩ : ∃ d, 10 ≤ d := ⟨10, Nat.le_refl _⟩
  obtain ⟨a0, n0, c0, xs, rfl, hx, hn⟩ := arg_slice (d := d) (sz := 5) Tryd.underlying22 (by kernel_rfl) (by decide) (dec_rule hd) h0
  obtain ⟨k, rfl, _⟩ := arg_int Tryd.underlying3 h1
  obtain ⟨e, rfl, _⟩ := arg_rule h2
  exact policyShadow_ok W hE ht hP a0 n0 c0 xs hx hn k e
end Go.Proofs.YtakdekkieobbaaaDoor
