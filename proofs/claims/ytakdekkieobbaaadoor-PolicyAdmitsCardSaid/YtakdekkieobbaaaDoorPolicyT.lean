
/-
  The text of rules; the closed fact of the policy's statements.
-/
import Derived.Test.YtakdekkieobbaaaDoorPolicyB
import Derived.Test.YtakdekkieobbaaaDoorShelfC
import Derived.Lib.ItoaLen
namespace Go.Proofs.YtakdekkieobbaaaDoor
open Go Ev

def sAllow : List UInt8 := [97, 108, 108, 111, 119]
def sDeny : List UInt8 := [100, 101, 110, 121]
def sOut : List UInt8 := [111, 117, 116]
def sIn : List UInt8 := [105, 110]
def sAny : List UInt8 := [97, 110, 121]
def sUdp : List UInt8 := [117, 100, 112]
def sTcp : List UInt8 := [116, 99, 112]
def protoB (p : Int) : List UInt8 := if p = 0 then sAny else if p = 1 then sUdp else sTcp
def RuleS.words (r : RuleS) : List (List UInt8) := [if r.allow = true then sAllow else sDeny, if r.out = true then sOut else sIn, protoB r.proto, Lib.itoa r.low ++ [45] ++ Lib.itoa r.top]
def RuleS.line (r : RuleS) : List UInt8 := Lib.join r.words [32]
theorem line_len (r : RuleS) (h1 : -9223372036854775808 ≤ r.low ∧ r.low ≤ 9223372036854775807) (h2 : -9223372036854775808 ≤ r.top ∧ r.top ≤ 9223372036854775807) : r.line.length ≤ 100 := by
  have e1 := Lib.itoa_length_le r.low h1.1 h1.2
  have e2 := Lib.itoa_length_le r.top h2.1 h2.2
  have w1 : (if r.allow = true then sAllow else sDeny).length ≤ 5 := by split <;> decide
  have w2 : (if r.out = true then sOut else sIn).length ≤ 3 := by split <;> decide
  have w3 : (protoB r.proto).length ≤ 3 := by
    unfold protoB
    split
    · decide
    · split <;> decide
  unfold RuleS.line RuleS.words
  rw [Lib.join_cons]
  simp only [Lib.joinTail, List.map_cons, List.map_nil, List.flatten_cons, List.flatten_nil, List.length_append, List.length_cons, List.length_nil]
  omega
def linesB (l : List RuleS) : List UInt8 := l.flatMap fun r => r.line ++ [10]
def NumR (r : RuleS) : Prop := (-9223372036854775808 ≤ r.low ∧ r.low ≤ 9223372036854775807) ∧ (-9223372036854775808 ≤ r.top ∧ r.top ≤ 9223372036854775807)
theorem numR_of {r : RuleS} (h : r.bad = false) : NumR r ∧ 0 ≤ r.proto ∧ r.proto ≤ 2 := by
  have h : ¬ (r.proto < 0 ∨ r.proto > 2 ∨ r.low < 1 ∨ r.low > r.top ∨ r.top > 65535) := of_decide_eq_false h
  unfold NumR
  omega
theorem lines_len : ∀ {l : List RuleS}, (∀ r ∈ l, NumR r) → (linesB l).length ≤ 101 * l.length
  | [], _ => by simp [linesB]
  | r :: l, h => by
    have ih := lines_len (l := l) fun x hx => h x (List.mem_cons_of_mem _ hx)
    have h1 := h r (by simp)
    have := line_len r h1.1 h1.2
    simp only [linesB, List.flatMap_cons, List.length_append, List.length_cons, List.length_nil] at ih ⊢
    omega
theorem lines_step {l : List RuleS} {k : Nat} {r : RuleS} (h : l[k]? = some r) : linesB (l.take (k + 1)) = linesB (l.take k) ++ (r.line ++ [10]) := by
  unfold linesB
  rw [List.take_add_one, h, List.flatMap_append]
  simp

section
variable {w : World} {G : RuleS → Prop} {a b : Option Addr} {n m c d : Nat} {xs ys : List RuleS}
theorem word_ok (i : Bool) (y z : List UInt8) (w : World) : CallC Tryd.prog 97 #[.bool i, .string (bs y), .string (bs z)] w fun v w' => v = .string (bs (if i = true then y else z)) ∧ Ext No w w' := by
  refine fn_intro tabOk Tryd.func97 (by kernel_rfl) rfl Tryd.ntmps97 (Nat.le_of_ble_eq_true rfl) ?_
  have hS := St.start w No
  cases i
  · repeat' ((conv => whnf); first | refine RetC.mk ?_ | refine NzC.mk (by decide) ?_ | refine RngC.mk (by omega) (by omega) ?_ | refine IdxC.mk (by omega) (by omega) ?_ | refine brD (fun _ => ?_) (fun _ => ?_) | refine brND (fun _ => ?_) (fun _ => ?_) | refine brN (fun _ => ?_) (fun _ => ?_) | refine brI (fun _ => ?_) (fun _ => ?_))
    exact ⟨rfl, hS.ext⟩
  · repeat' ((conv => whnf); first | refine RetC.mk ?_ | refine NzC.mk (by decide) ?_ | refine RngC.mk (by omega) (by omega) ?_ | refine IdxC.mk (by omega) (by omega) ?_ | refine brD (fun _ => ?_) (fun _ => ?_) | refine brND (fun _ => ?_) (fun _ => ?_) | refine brN (fun _ => ?_) (fun _ => ?_) | refine brI (fun _ => ?_) (fun _ => ?_))
    exact ⟨rfl, hS.ext⟩
theorem line_ok (r : RuleS) (hr : NumR r) (hp : 0 ≤ r.proto ∧ r.proto ≤ 2) (w : World) (ht : Pow10 w) (hP : Protos w) : CallC Tryd.prog 65 #[.agg (encRule r).toArray] w fun v w' => v = .string (bs r.line) ∧ Ext No w w' := by
  have hlen := line_len r hr.1 hr.2
  have e1 := Lib.itoa_length_le r.low hr.1.1 hr.1.2
  have e2 := Lib.itoa_length_le r.top hr.2.1 hr.2.2
  refine fn_intro tabOk Tryd.func65 (by kernel_rfl) rfl Tryd.ntmps65 (Nat.le_of_ble_eq_true rfl) ?_
  have hS := St.start w No
  (conv => whnf)
  refine hS.new (fun b w' hb hS => ?_)
  replace hS : St w No w' [blk b 24 (encRule r)] := hS
  (conv => whnf)
  (refine drawS tabOk mixed [] (No) [0, 1, 3, 4, 6, 7, 8, 9, 10, 11, 14, 15, 2, 5, 12, 13, 16, 17, 18, 19, 20] (by kernel_rfl) ?_; rintro w1 rfl; replace hS := hS.drew)
  (conv => whnf)
  refine hS.ldF 0 rfl rfl id ?_
  (conv => whnf)
  refine hS.ldF 0 rfl rfl id ?_
  (conv => whnf)
  refine hS.ldF 0 rfl rfl id ?_
  (conv => whnf)
  refine IdxC.mk (by omega) (by omega) ?_
  (conv => whnf)
  refine hS.ldrF (v := .string (bs (protoB r.proto))) (by
    have : r.proto = 0 ∨ r.proto = 1 ∨ r.proto = 2 := by omega
    rcases this with h | h | h
    · rw [h]; exact hP.one 0 rfl
    · rw [h]; exact hP.one 1 rfl
    · rw [h]; exact hP.one 2 rfl) id id ?_
  (conv => whnf)
  refine hS.ldF 0 rfl rfl id ?_
  (conv => whnf)
  refine hS.ldF 0 rfl rfl id ?_
  (conv => whnf)
  refine (word_ok r.allow sAllow sDeny _).mono ?_
  rintro v w1 ⟨rfl, hx'⟩
  replace hS := hS.no hx'
  have hK := hx'
  refine KeepC.mk hK ?_
  clear hx'
  (conv => whnf)
  refine (word_ok r.out sOut sIn _).mono ?_
  rintro v w2 ⟨rfl, hx'⟩
  replace hS := hS.no hx'
  replace hK := hK.trans hx'
  refine KeepC.mk hK ?_
  clear hx'
  (conv => whnf)
  refine (itoa_ok r.low hr.1.1 hr.1.2 _ (ht.no hS.ext)).mono ?_
  rintro v w3 ⟨rfl, hx'⟩
  replace hS := hS.no hx'
  replace hK := hK.trans hx'
  refine KeepC.mk hK ?_
  clear hx'
  (conv => whnf)
  refine addS (b := [45]) (by simp; omega) ?_
  (conv => whnf)
  refine (itoa_ok r.top hr.2.1 hr.2.2 _ (ht.no hS.ext)).mono ?_
  rintro v w4 ⟨rfl, hx'⟩
  replace hS := hS.no hx'
  replace hK := hK.trans hx'
  refine KeepC.mk hK ?_
  clear hx'
  (conv => whnf)
  refine addS (by simp; omega) ?_
  (conv => whnf)
  refine hS.litX (cs := r.words.map fun l => .string (bs l)) Tryd.underlying181 (sz := 1) (by kernel_rfl) (z := .string (bs [])) (by kernel_rfl) rfl rfl (by rfl) (fun bl w5 hbl hx' hS => ?_)
  replace hK := hK.trans hx'
  refine KeepC.mk hK ?_
  clear hx'
  have hc : CellsAt w5 bl 0 (r.words.map fun l => .string (bs l)) := (hS.blk 1 rfl).cells rfl
  (conv => whnf)
  refine (join_ok r.words [32] _ rfl hc (by show 0 < 4; decide) (Nat.le_refl _) (by show r.line.length ≤ _; omega) (by show 4 ≤ _; decide)).mono ?_
  rintro v w6 ⟨rfl, hx'⟩
  replace hS := hS.no hx'
  replace hK := hK.trans hx'
  refine KeepC.mk hK ?_
  repeat' ((conv => whnf); first | refine RetC.mk ?_ | refine NzC.mk (by decide) ?_ | refine RngC.mk (by omega) (by omega) ?_ | refine IdxC.mk (by omega) (by omega) ?_ | refine brD (fun _ => ?_) (fun _ => ?_) | refine brND (fun _ => ?_) (fun _ => ?_) | refine brN (fun _ => ?_) (fun _ => ?_) | refine brI (fun _ => ?_) (fun _ => ?_))
  exact ⟨rfl, hS.ext⟩
theorem ptext_ok {E : Nat → Addr} {q : Nat} (hx : Slc w 5 encRule G a n xs) (ht : Pow10 w) (hP : Protos w) (hE : Errs w E q [2]) :
    CallC Tryd.prog 35 #[.slice a n c] w fun v w' => (∃ e, v = .tuple #[.string (bs (if GoodR xs then linesB xs else [])), e] ∧ FaultV E w w' e (faultL xs).1 (faultL xs).2) ∧ Ext No w w' := by
  have hm := hx.max
  have hl := hx.len
  have hg := @fault_good xs
  refine fn_intro tabOk Tryd.func35 (by kernel_rfl) rfl Tryd.ntmps35 (Nat.le_of_ble_eq_true rfl) ?_
  have hS := St.start w No
  (conv => whnf)
  refine (rcheck_ok hx hE).mono ?_
  rintro v w2 ⟨hf, hx'⟩
  replace hS := hS.no hx'
  generalize hfl : faultL xs = F at hf hg
  obtain ⟨fc, fa⟩ := F
  dsimp only at hf hg ⊢
  cases fc with
  | succ j =>
    rw [if_neg (fun h => by have := hg.2 h; omega)]
    obtain ⟨t, u, rfl⟩ := hf.ne
    repeat' ((conv => whnf); first | refine RetC.mk ?_ | refine NzC.mk (by decide) ?_ | refine RngC.mk (by omega) (by omega) ?_ | refine IdxC.mk (by omega) (by omega) ?_ | refine brD (fun _ => ?_) (fun _ => ?_) | refine brND (fun _ => ?_) (fun _ => ?_) | refine brN (fun _ => ?_) (fun _ => ?_) | refine brI (fun _ => ?_) (fun _ => ?_))
    exact ⟨⟨_, rfl, hf⟩, hS.ext⟩
  | zero =>
    have hgr : GoodR xs := hg.1 rfl
    rw [if_pos hgr]
    obtain ⟨rfl, rfl⟩ : v = .nilIface ∧ fa = -1 := by
      rcases hf with ⟨h1, h⟩ | ⟨_, h, _⟩
      · exact ⟨h, h1⟩
      · omega
    clear hf
    (conv => whnf)
    refine loopR tabOk (fun σ w' q => ∃ k : Nat, σ = [(15, .int .i64 (k : Int)), (14, .int .i64 n), (13, .slice a n c), (5, .string (bs (linesB (xs.take k))))] ∧ q = n - k ∧ k ≤ n ∧ St w No w' [])
      (σ' := [(15, .int .i64 ((0 : Nat) : Int)), (14, .int .i64 n), (13, .slice a n c), (5, .string (bs (linesB (xs.take 0))))]) (n := n) ⟨rfl, rfl, rfl, rfl, trivial⟩ ⟨0, rfl, rfl, Nat.zero_le _, hS⟩ ?_
    clear hS
    rintro _ w1 q ⟨k, rfl, rfl, hk, hS⟩
    (conv => whnf)
    refine brD (fun h3 => ?_) (fun h3 => ?_)
    · obtain ⟨b0, o0, x, hxk, hgx, rfl, _, hc⟩ := hx.at (k := k) (by omega)
      have hst := lines_step hxk
      obtain ⟨hn1, hp1⟩ := numR_of (hgr.2 x (List.mem_of_getElem? hxk))
      have hl1 := lines_len (l := xs.take k) fun r hr => (numR_of (hgr.2 r (List.mem_of_mem_take hr))).1
      have hl2 := line_len x hn1.1 hn1.2
      have hl3 := hgr.1
      rw [List.length_take] at hl1
      (conv => whnf)
      refine IdxC.mk (by omega) (by omega) ?_
      (conv => whnf)
      refine hS.lar (l := encRule x) rfl hc id ?_
      (conv => whnf)
      refine hS.new (fun bx w' hb hS => ?_)
      (conv => whnf)
      refine hS.st 0 rfl (Nat.le_of_ble_eq_true rfl) rfl (fun w' hS => ?_)
      replace hS : St w No w' [blk bx 24 (encRule x)] := hS
      (conv => whnf)
      refine hS.laX 0 rfl rfl ?_
      (conv => whnf)
      refine (line_ok x hn1 hp1 _ (ht.no hS.ext) (hP.no hS.ext)).mono ?_
      rintro v w' ⟨rfl, hx'⟩
      replace hS := hS.no hx'
      (conv => whnf)
      refine addS (b := [10]) (by simp; omega) ?_
      (conv => whnf)
      refine addS (by simp; omega) ?_
      rw [← hst]
      (conv => whnf)
      refine RngC.mk (by omega) (by omega) ?_
      (conv => whnf)
      refine LoopE.mk ⟨_, [(15, .int .i64 ((k + 1 : Nat) : Int)), (14, _), (13, _), (5, _)], ?_, ⟨rfl, rfl, rfl, rfl, trivial⟩, ⟨k + 1, rfl, rfl, by omega, hS.keep 0⟩⟩
      omega
    · have : k = n := by omega
      subst this
      rw [List.take_of_length_le (by omega)]
      repeat' ((conv => whnf); first | refine RetC.mk ?_ | refine NzC.mk (by decide) ?_ | refine RngC.mk (by omega) (by omega) ?_ | refine IdxC.mk (by omega) (by omega) ?_ | refine brD (fun _ => ?_) (fun _ => ?_) | refine brND (fun _ => ?_) (fun _ => ?_) | refine brN (fun _ => ?_) (fun _ => ?_) | refine brI (fun _ => ?_) (fun _ => ?_))
      exact ⟨⟨_, rfl, .inl ⟨rfl, rfl⟩⟩, hS.ext⟩
end
def rule59 : RuleS := ⟨true, true, 0, 5, 9⟩
theorem ruled_facts : GoodR [rule59] ∧ linesB [rule59] = [97, 108, 108, 111, 119, 32, 111, 117, 116, 32, 97, 110, 121, 32, 53, 45, 57, 10] ∧ faultL [rule59] = (0, -1) := by
  refine ⟨by decide, ?_, by decide⟩
  have h5 : Lib.itoa 5 = [53] := Lib.decDigits_one (i := 5) (by decide)
  have h9 : Lib.itoa 9 = [57] := Lib.decDigits_one (i := 9) (by decide)
  simp only [linesB, rule59, List.flatMap_cons, List.flatMap_nil, RuleS.line, RuleS.words, h5, h9]
  decide
theorem ruled_ok {E : Nat → Addr} {n : Nat} (w : World) (hE : Errs w E n [2, 3]) (ht : Pow10 w) (hP : Protos w) : CallC Tryd.prog 10 #[] w fun v w' => v = .bool true ∧ Ext No w w' := by
  obtain ⟨r1, r2, r3⟩ := ruled_facts
  refine fn_intro tabOk Tryd.func10 (by kernel_rfl) rfl Tryd.ntmps10 (Nat.le_of_ble_eq_true rfl) ?_
  have hS := St.start w No
  (conv => whnf)
  refine hS.lit (cs := encRule rule59) Tryd.underlying22 (sz := 5) (by kernel_rfl) (z := .agg (encRule noRule).toArray) (by kernel_rfl) rfl rfl (by rfl) (fun b w' hb hS => ?_)
  have hx : Slc w' 5 encRule (fun _ => True) (some ⟨b, 0, none⟩) 1 [rule59] := Slc.of_blk codRule (hS.blk 0 rfl) rfl (by decide) (fun _ _ => trivial) rfl
  (conv => whnf)
  refine (admitsP_ok hx ⟨1, 0, 1, 0, 9, 0⟩ true (hE.ext hS.ext fun _ h => h.elim)).mono ?_
  rintro v w2 ⟨⟨e, rfl, hf⟩, hx'⟩
  rw [r3] at hf
  obtain rfl : e = .nilIface := by
    rcases hf with ⟨_, h⟩ | ⟨_, h, _⟩
    · exact h
    · exact absurd h (by decide)
  replace hS := hS.no hx'
  replace hx := hx.no hx'
  clear hx' hf
  rw [show (decide (GoodR [rule59] ∧ PktS.err ⟨1, 0, 1, 0, 9, 0⟩ = 0) && admitsL 1 9 true [rule59]) = true by decide]
  (conv => whnf)
  refine (ptext_ok hx (ht.no hS.ext) (hP.no hS.ext) ((hE.sub rfl).ext hS.ext fun _ h => h.elim)).mono ?_
  rintro v w3 ⟨⟨e, rfl, hf⟩, hx'⟩
  rw [r3] at hf
  rw [if_pos r1, r2]
  obtain rfl : e = .nilIface := by
    rcases hf with ⟨_, h⟩ | ⟨_, h, _⟩
    · exact h
    · exact absurd h (by decide)
  replace hS := hS.no hx'
  (conv => whnf)
  refine eqS2 ?_
  repeat' ((conv => whnf); first | refine RetC.mk ?_ | refine NzC.mk (by decide) ?_ | refine RngC.mk (by omega) (by omega) ?_ | refine IdxC.mk (by omega) (by omega) ?_ | refine brD (fun _ => ?_) (fun _ => ?_) | refine brND (fun _ => ?_) (fun _ => ?_) | refine brN (fun _ => ?_) (fun _ => ?_) | refine brI (fun _ => ?_) (fun _ => ?_))
  exact ⟨rfl, hS.ext⟩
end Go.Proofs.YtakdekkieobbaaaDoor
