/-
  Texts of this claim, joined: PoolZA, PoolZB, PoolZC, PoolZD, PoolZE, PoolZF, PoolZG, PoolZH, PoolZI, PoolZJ, PoolZK, PoolZL, PoolZM, PoolZN, PoolZO, PoolZP, EvL, ShelfG, Packet, Policy, PolicyB.
-/
import Derived.Test.YtgcbcagaibecbaaGreatDoorSideReadsE
import Derived.Conc.TokenWalk
import Derived.Lib.Bytealg
import Derived.Lib.SplitLaws
import Derived.Lib.IndexBytes
import Derived.Laws.Externs
set_option linter.unusedSectionVars false
set_option linter.unusedSimpArgs false
set_option linter.unusedVariables false

namespace Go.Proofs.YtgcbcagaibecbaaGreatDoor.Pool
set_option maxRecDepth 20000
open Go Go.Conc Gap Ev Go.RowKit
open Go.ConcN (WgLive RW AtK1)
open Go.ConcR (Payload)
local instance : Gap.Leaps := noLeaps

def zrv : Value := .agg #[.int .i64 0, .slice none 0 0, .nilIface]
noncomputable def shopJ (J : Job) (Ans : Nat → Value → Value → Ent → Prop) : Shop :=
  { P := Tryz.prog, Z := J.Z, ct := J.ct, cb := J.cb, zt := .int .i64 0, zb := .tuple #[], zr := zrv, ty := 74, Wg := J.Wg, many := J.many, AR := ARJ J, AS := ASJ J Ans, Res := ResJ J Ans }
section
variable {J : Job} {Ans : Nat → Value → Value → Ent → Prop} {C i : Nat} {T : Array Value} {W : World}
theorem comm_step {P : Program} {main : Bool} {b : Frame} {a : Act} {k : List Item} {cs : List Frame} {ops : Array Oper} {i : Nat} {rest : List Nat} {o : Oper} {cases : Array CommCase} {shape : CommShape} (ho : ops[i]? = some o) (hw : Region.wanted o (yielded ops a.tmps) = true) (hk : b.kind ≠ .early)
    (hr : ∀ w, (execOp a.eval o).run P w = .ok (.comm cases true shape) w) (he : ∀ w, (execOp a.eval o).events P w #[] = #[]) (w : World) :
    stepG P main (G (b.at a (.inRegion ops (i :: rest) :: k)) cs) w = .comm (G (b.at a (.inRegion ops (i :: rest) :: k)) cs) cases true shape w #[] := by
  rw [stepG_comm ho hw hk (hr w)]
  have : listed P b.fn a o w = #[] := by unfold listed; rw [he]; exact seen_none P _
  rw [this]
theorem recv_step {cs : List Frame} (hT : TF J T) (w : World) : stepG Tryz.prog false (G (atRecv T) cs) w = .comm (G (atRecv T) cs) #[rcase J.ct (.int .i64 0)] true (.recv true) w #[] := by
  have e6 : (⟨T, []⟩ : Act).eval (.tmp 6) = .chan (some J.ct) := by
    have := hT.t6
    simp [Act.eval, this]
  have hu : Tryz.prog.underlying 63 = some (.chan .both 3) := by kernel_rfl
  have hz := Tryz.zeroValue3
  refine comm_step (rest := [1]) rfl rfl (by decide) (fun w => ?_) (fun w => ?_) w
  · show (execOp (⟨T, []⟩ : Act).eval ⟨some 7, .recv 63 (.tmp 6) true, _, _, _, _⟩).run Tryz.prog w = _
    unfold execOp
    simp [e6, underlying, hu, hz, rcase]
  · show (execOp (⟨T, []⟩ : Act).eval ⟨some 7, .recv 63 (.tmp 6) true, _, _, _, _⟩).events Tryz.prog w #[] = _
    unfold execOp
    simp [e6, underlying, hu, hz, go_sem]
theorem send_step {cs : List Frame} {v : Value} (h16 : T[16]? = some (.chan (some J.cb))) (h20 : T[20]? = some v) (w : World) : stepG Tryz.prog false (G (atSend T) cs) w = .comm (G (atSend T) cs) #[scase J.cb v (.tuple #[])] true .send w #[] := by
  have e16 : (⟨T, []⟩ : Act).eval (.tmp 16) = .chan (some J.cb) := by simp [Act.eval, h16]
  have e20 : (⟨T, []⟩ : Act).eval (.tmp 20) = v := by simp [Act.eval, h20]
  refine comm_step (rest := []) rfl rfl (by decide) (fun w => ?_) (fun w => ?_) w
  · show (execOp (⟨T, []⟩ : Act).eval ⟨none, .send (.tmp 16) (.tmp 20), _, _, _, _⟩).run Tryz.prog w = _
    unfold execOp
    simp [e16, e20, scase]
  · show (execOp (⟨T, []⟩ : Act).eval ⟨none, .send (.tmp 16) (.tmp 20), _, _, _, _⟩).events Tryz.prog w #[] = _
    unfold execOp
    simp
theorem shop_ok (ok : JobOk J) (hH : HowOk J Ans) : (shopJ J Ans).Ok := by
  refine ⟨fun C g W ⟨T, hT, hg, hF⟩ => ?_, fun i C O g W ⟨T, v, hT, h16, h20, hg, hM, hR⟩ => ?_⟩
  · subst hg
    exact ⟨rfl, fun w => recv_step hT w, fun i hi => task ok hH hi hT hF.m, 60, closed hT.size ⟨hF.m.wg, hF.live⟩⟩
  · subst hg
    exact ⟨rfl, v, fun w => send_step h16 h20 w, hR, fun hl => ⟨6, sent ok hT ⟨hM, hl⟩⟩⟩
end
end Go.Proofs.YtgcbcagaibecbaaGreatDoor.Pool

namespace Go.Proofs.YtgcbcagaibecbaaGreatDoor.Pool
set_option maxRecDepth 20000
open Go Go.Conc Gap Ev Go.RowKit
open Go.ConcN (WgLive)
open Go.ConcR (Payload WgAt KK)
local instance : Gap.Leaps := noLeaps

def chE (b : Nat) : Ent := ⟨[b], fun w => w.heap[b]? = some (.chan 0 #[] false 0 0 false)⟩
theorem chE_local (b : Nat) : (chE b).Local := fun _ _ h hb => (h b (by simp [chE])).trans hb
section
variable {w0 w : World} {S : Nat → Prop} {H : List Ent}
theorem St.chan (h : St w0 S w H) {t e : TypeId} {d : ChanDir} (hu : Tryz.prog.underlying t = some (.chan d e)) (hi : (Tryz.prog.info? e).isSome = true) {k : Value → World → Prop} (hk : ∀ b w', St w0 S w' (H ++ [chE b]) → k (.chan (some b)) w') : RunC Tryz.prog (Instr.makeChan t (.int .i64 0)) w k := by
  refine .loud (plain_makeChan _ _) fun gn gd => ?_
  replace h := h.gap gn gd
  generalize Gap.wgap w gn gd = w at h
  obtain ⟨inf, hinf⟩ := Option.isSome_iff_exists.1 hi
  have hmax : IntKind.i64.max = 9223372036854775807 := by decide
  refine ⟨.chan (some w.heap.size), { w with heap := w.heap.push (.chan 0 #[] false 0 0 false) }, ?_, hk _ _ (h.made (e := chE w.heap.size) ⟨rfl, rfl, rfl, by simp, fun i hi _ => ?_⟩ (chE_local _) ?_ ?_)⟩
  · unfold Instr.makeChan
    have h0 : ¬ (281474976710544 : Int) < 0 := by omega
    simp [asInt, asIntOf, underlying, hu, typeInfo, hinf, hmax]
  · show (w.heap.push _)[i]? = _
    rw [Array.getElem?_push, if_neg (by omega)]
  · show (w.heap.push _)[w.heap.size]? = _
    rw [Array.getElem?_push, if_pos rfl]
  · intro b hb
    obtain rfl : b = w.heap.size := by simpa [chE] using hb
    simp
end

noncomputable def tailA : Code := match fnA.body with
  | some (.seq _ (.seq _ (.seq _ (.seq _ t)))) => t
  | _ => .skip
theorem bodyA_eq : fnA.body = some (.seq (.region 0 (regs fnA 0) false) (.seq (.region 1 (regs fnA 1) true) (.seq (.region 2 (regs fnA 2) false) (.seq (.seq (.region 3 (regs fnA 3) false) (.block 0 (.loop (round fnA 0)))) tailA)))) := rfl
abbrev iA : Nat := 12
def sgA (many workers : Nat) (ct cb Wg bt bh bb : Nat) : Slots := [(0, .int .i64 many), (1, .int .i64 workers), (5, .pointer (some ⟨bh, 0, none⟩)), (8, .pointer (some ⟨bt, 0, none⟩)), (9, .pointer (some ⟨bb, 0, none⟩)), (10, .pointer (some ⟨Wg, 0, none⟩))]
def HeadG (many workers ct cb Wg bt bh bb k : Nat) (cs : List Frame) (g : Goroutine) : Prop :=
  ∃ a, Fits 62 ((17, .int .i64 workers) :: (18, .int .i64 k) :: sgA many workers ct cb Wg bt bh bb) a ∧ g = G ((base iA).at a [.code (round fnA 0), .inLoop (round fnA 0), .inBlock 0, .code tailA]) cs
structure HeadW (ct cb Wg bt bh bb : Nat) (how : Value) (w : World) : Prop where
  hct : w.heap[ct]? = some (.chan 0 #[] false 0 0 false)
  hcb : w.heap[cb]? = some (.chan 0 #[] false 0 0 false)
  hwg : Blk w Wg 74 [.int .u64 0, .int .u32 0]
  hbt : Blk w bt 63 [.chan (some ct)]
  hbb : Blk w bb 64 [.chan (some cb)]
  hbh : Blk w bh 46 [how]
  nodup : [ct, cb, Wg, bt, bh, bb].Nodup
def Head0 (many workers : Nat) (O0 : Nat → Prop) (w0 : World) (how : Value) (cs : List Frame) (O : Nat → Prop) (g : Goroutine) (W : World) : Prop :=
  (∃ ct cb Wg bt bh bb, HeadG many workers ct cb Wg bt bh bb 0 cs g ∧ HeadW ct cb Wg bt bh bb how W ∧ ∀ b ∈ [ct, cb, Wg, bt, bh, bb], O b ∧ w0.heap.size ≤ b) ∧ (∀ b, O0 b → W.heap[b]? = w0.heap[b]?) ∧ ∀ b, O b → ∃ o, W.heap[b]? = some o ∧ okObj o = true

theorem st_rebase {w0 w1 w : World} {S : Nat → Prop} {H : List Ent} (h : St w1 S w H) (k : Ext S w0 w1) : St w0 S w H :=
  ⟨k.trans h.ext, h.each, h.loc, fun e he b hb => ⟨(h.may e he b hb).1.imp id fun x => Nat.le_trans k.size x, (h.may e he b hb).2⟩, h.apart⟩
set_option maxHeartbeats 8000000 in
theorem regionA1 {many workers : Nat} {bh : Nat} (w1 : World) : DrawC Tryz.prog tab 62 (regs fnA 1) (CutE (fun σ w' => ∃ ct cb bt bb, σ = [(8, .pointer (some ⟨bt, 0, none⟩)), (9, .pointer (some ⟨bb, 0, none⟩)), (0, .int .i64 many), (1, .int .i64 workers), (5, .pointer (some ⟨bh, 0, none⟩))] ∧ St { w1 with drawn := w1.drawn + 1 } No w' [chE ct, chE cb, blk bt 63 [.chan (some ct)], blk bb 64 [.chan (some cb)]])) [(0, .int .i64 many), (1, .int .i64 workers), (5, .pointer (some ⟨bh, 0, none⟩))] w1 := by
  refine drawT tabOk mixed [] (No) (.alt 0 (.alt 1 (.alt 2 (.alt 3 (.alt 4 (.alt 5 .fin .fin) .fin) .fin) (.alt 3 (.alt 2 (.alt 4 (.alt 5 .fin .fin) .fin) .fin) .fin)) (.alt 2 (.alt 1 (.alt 3 (.alt 4 (.alt 5 .fin .fin) .fin) .fin) (.alt 3 (.alt 1 (.alt 4 (.alt 5 .fin .fin) .fin) (.alt 4 (.alt 1 (.alt 5 .fin .fin) .fin) .fin)) .fin)) (.alt 3 (.alt 1 (.alt 2 (.alt 4 (.alt 5 .fin .fin) .fin) .fin) (.alt 2 (.alt 1 (.alt 4 (.alt 5 .fin .fin) .fin) (.alt 4 (.alt 1 (.alt 5 .fin .fin) .fin) .fin)) .fin)) .fin))) (.alt 1 (.alt 0 (.alt 2 (.alt 3 (.alt 4 (.alt 5 .fin .fin) .fin) .fin) (.alt 3 (.alt 2 (.alt 4 (.alt 5 .fin .fin) .fin) .fin) .fin)) (.alt 2 (.alt 0 (.alt 3 (.alt 4 (.alt 5 .fin .fin) .fin) .fin) (.alt 3 (.alt 0 (.alt 4 (.alt 5 .fin .fin) .fin) .fin) .fin)) (.alt 3 (.alt 0 (.alt 2 (.alt 4 (.alt 5 .fin .fin) .fin) .fin) (.alt 2 (.alt 0 (.alt 4 (.alt 5 .fin .fin) .fin) .fin) .fin)) .fin))) (.alt 2 (.alt 0 (.alt 1 (.alt 3 (.alt 4 (.alt 5 .fin .fin) .fin) .fin) (.alt 3 (.alt 1 (.alt 4 (.alt 5 .fin .fin) .fin) (.alt 4 (.alt 1 (.alt 5 .fin .fin) .fin) .fin)) .fin)) (.alt 1 (.alt 0 (.alt 3 (.alt 4 (.alt 5 .fin .fin) .fin) .fin) (.alt 3 (.alt 0 (.alt 4 (.alt 5 .fin .fin) .fin) .fin) .fin)) (.alt 3 (.alt 0 (.alt 1 (.alt 4 (.alt 5 .fin .fin) .fin) (.alt 4 (.alt 1 (.alt 5 .fin .fin) .fin) .fin)) (.alt 1 (.alt 0 (.alt 4 (.alt 5 .fin .fin) .fin) .fin) .fin)) .fin))) (.alt 3 (.alt 0 (.alt 1 (.alt 2 (.alt 4 (.alt 5 .fin .fin) .fin) .fin) (.alt 2 (.alt 1 (.alt 4 (.alt 5 .fin .fin) .fin) (.alt 4 (.alt 1 (.alt 5 .fin .fin) .fin) .fin)) .fin)) (.alt 1 (.alt 0 (.alt 2 (.alt 4 (.alt 5 .fin .fin) .fin) .fin) (.alt 2 (.alt 0 (.alt 4 (.alt 5 .fin .fin) .fin) .fin) .fin)) (.alt 2 (.alt 0 (.alt 1 (.alt 4 (.alt 5 .fin .fin) .fin) (.alt 4 (.alt 1 (.alt 5 .fin .fin) .fin) .fin)) (.alt 1 (.alt 0 (.alt 4 (.alt 5 .fin .fin) .fin) .fin) .fin)) .fin))) .fin)))) (by kernel_rfl) ?_
  rintro w5 rfl
  have hS := St.start { w1 with drawn := w1.drawn + 1 } No
  repeat' ((conv => whnf); first | refine And.intro ?_ ?_ | refine St.chan hS Tryz.underlying63 (by kernel_rfl) (fun b w' hS => KeepC.mk hS.ext ?_) | refine St.chan hS Tryz.underlying64 (by kernel_rfl) (fun b w' hS => KeepC.mk hS.ext ?_) | refine hS.new (fun b w' _ hS => KeepC.mk hS.ext ?_) | refine hS.st 0 rfl (Nat.le_of_ble_eq_true rfl) rfl (fun w' hS => KeepC.mk hS.ext ?_) | refine hS.st 1 rfl (Nat.le_of_ble_eq_true rfl) rfl (fun w' hS => KeepC.mk hS.ext ?_) | refine hS.st 2 rfl (Nat.le_of_ble_eq_true rfl) rfl (fun w' hS => KeepC.mk hS.ext ?_) | refine hS.st 3 rfl (Nat.le_of_ble_eq_true rfl) rfl (fun w' hS => KeepC.mk hS.ext ?_))
  all_goals first
  | exact CutE.mk ⟨[(8, _), (9, _), (0, _), (1, _), (5, _)], ⟨rfl, rfl, rfl, rfl, rfl, trivial⟩, _, _, _, _, rfl, hS.sel [0, 1, 2, 3] (by decide)⟩
  | exact CutE.mk ⟨[(8, _), (9, _), (0, _), (1, _), (5, _)], ⟨rfl, rfl, rfl, rfl, rfl, trivial⟩, _, _, _, _, rfl, hS.sel [0, 1, 3, 2] (by decide)⟩
  | exact CutE.mk ⟨[(8, _), (9, _), (0, _), (1, _), (5, _)], ⟨rfl, rfl, rfl, rfl, rfl, trivial⟩, _, _, _, _, rfl, hS.sel [0, 2, 1, 3] (by decide)⟩
  | exact CutE.mk ⟨[(8, _), (9, _), (0, _), (1, _), (5, _)], ⟨rfl, rfl, rfl, rfl, rfl, trivial⟩, _, _, _, _, rfl, hS.sel [0, 2, 3, 1] (by decide)⟩
  | exact CutE.mk ⟨[(8, _), (9, _), (0, _), (1, _), (5, _)], ⟨rfl, rfl, rfl, rfl, rfl, trivial⟩, _, _, _, _, rfl, hS.sel [0, 3, 1, 2] (by decide)⟩
  | exact CutE.mk ⟨[(8, _), (9, _), (0, _), (1, _), (5, _)], ⟨rfl, rfl, rfl, rfl, rfl, trivial⟩, _, _, _, _, rfl, hS.sel [0, 3, 2, 1] (by decide)⟩
  | exact CutE.mk ⟨[(8, _), (9, _), (0, _), (1, _), (5, _)], ⟨rfl, rfl, rfl, rfl, rfl, trivial⟩, _, _, _, _, rfl, hS.sel [1, 0, 2, 3] (by decide)⟩
  | exact CutE.mk ⟨[(8, _), (9, _), (0, _), (1, _), (5, _)], ⟨rfl, rfl, rfl, rfl, rfl, trivial⟩, _, _, _, _, rfl, hS.sel [1, 0, 3, 2] (by decide)⟩
  | exact CutE.mk ⟨[(8, _), (9, _), (0, _), (1, _), (5, _)], ⟨rfl, rfl, rfl, rfl, rfl, trivial⟩, _, _, _, _, rfl, hS.sel [1, 2, 0, 3] (by decide)⟩
  | exact CutE.mk ⟨[(8, _), (9, _), (0, _), (1, _), (5, _)], ⟨rfl, rfl, rfl, rfl, rfl, trivial⟩, _, _, _, _, rfl, hS.sel [1, 2, 3, 0] (by decide)⟩
  | exact CutE.mk ⟨[(8, _), (9, _), (0, _), (1, _), (5, _)], ⟨rfl, rfl, rfl, rfl, rfl, trivial⟩, _, _, _, _, rfl, hS.sel [1, 3, 0, 2] (by decide)⟩
  | exact CutE.mk ⟨[(8, _), (9, _), (0, _), (1, _), (5, _)], ⟨rfl, rfl, rfl, rfl, rfl, trivial⟩, _, _, _, _, rfl, hS.sel [1, 3, 2, 0] (by decide)⟩
  | exact CutE.mk ⟨[(8, _), (9, _), (0, _), (1, _), (5, _)], ⟨rfl, rfl, rfl, rfl, rfl, trivial⟩, _, _, _, _, rfl, hS.sel [2, 0, 1, 3] (by decide)⟩
  | exact CutE.mk ⟨[(8, _), (9, _), (0, _), (1, _), (5, _)], ⟨rfl, rfl, rfl, rfl, rfl, trivial⟩, _, _, _, _, rfl, hS.sel [2, 0, 3, 1] (by decide)⟩
  | exact CutE.mk ⟨[(8, _), (9, _), (0, _), (1, _), (5, _)], ⟨rfl, rfl, rfl, rfl, rfl, trivial⟩, _, _, _, _, rfl, hS.sel [2, 1, 0, 3] (by decide)⟩
  | exact CutE.mk ⟨[(8, _), (9, _), (0, _), (1, _), (5, _)], ⟨rfl, rfl, rfl, rfl, rfl, trivial⟩, _, _, _, _, rfl, hS.sel [2, 1, 3, 0] (by decide)⟩
  | exact CutE.mk ⟨[(8, _), (9, _), (0, _), (1, _), (5, _)], ⟨rfl, rfl, rfl, rfl, rfl, trivial⟩, _, _, _, _, rfl, hS.sel [2, 3, 0, 1] (by decide)⟩
  | exact CutE.mk ⟨[(8, _), (9, _), (0, _), (1, _), (5, _)], ⟨rfl, rfl, rfl, rfl, rfl, trivial⟩, _, _, _, _, rfl, hS.sel [2, 3, 1, 0] (by decide)⟩
  | exact CutE.mk ⟨[(8, _), (9, _), (0, _), (1, _), (5, _)], ⟨rfl, rfl, rfl, rfl, rfl, trivial⟩, _, _, _, _, rfl, hS.sel [3, 0, 1, 2] (by decide)⟩
  | exact CutE.mk ⟨[(8, _), (9, _), (0, _), (1, _), (5, _)], ⟨rfl, rfl, rfl, rfl, rfl, trivial⟩, _, _, _, _, rfl, hS.sel [3, 0, 2, 1] (by decide)⟩
  | exact CutE.mk ⟨[(8, _), (9, _), (0, _), (1, _), (5, _)], ⟨rfl, rfl, rfl, rfl, rfl, trivial⟩, _, _, _, _, rfl, hS.sel [3, 1, 0, 2] (by decide)⟩
  | exact CutE.mk ⟨[(8, _), (9, _), (0, _), (1, _), (5, _)], ⟨rfl, rfl, rfl, rfl, rfl, trivial⟩, _, _, _, _, rfl, hS.sel [3, 1, 2, 0] (by decide)⟩
  | exact CutE.mk ⟨[(8, _), (9, _), (0, _), (1, _), (5, _)], ⟨rfl, rfl, rfl, rfl, rfl, trivial⟩, _, _, _, _, rfl, hS.sel [3, 2, 0, 1] (by decide)⟩
  | exact CutE.mk ⟨[(8, _), (9, _), (0, _), (1, _), (5, _)], ⟨rfl, rfl, rfl, rfl, rfl, trivial⟩, _, _, _, _, rfl, hS.sel [3, 2, 1, 0] (by decide)⟩
  | trace_state
section
variable {O Z : Nat → Prop} {W w : World} {cs : List Frame} {many workers : Nat} {how : Value}
theorem own_of {b : Nat} {o : Obj} (hl : Lag O Z w W) (h : w.heap[b]? = some o) (hc : (∃ c t, o = .cells c t (0, 0) ∧ 0 < c.size) ∨ o.isChan = true) : O b ∧ W.heap[b]? = some o := by
  have ho : O b := Classical.byContradiction fun ho => by
    rcases hl.rest b o ho h with ⟨t, f, rfl⟩ | ⟨_, c, t, f, _, rfl⟩
    · rcases hc with ⟨c, t, e, h⟩ | e
      · injection e with e1
        subst e1
        simp at h
      · cases e
    · rcases hc with ⟨c', t', e, h⟩ | e
      · simp [glass] at e
      · cases e
  obtain ⟨o', h1, h2, _⟩ := hl.own b ho
  rw [h] at h1
  cases h1
  exact ⟨ho, h2⟩
theorem all_start (hl : Lag O Z w W) (hh : isOne how = true) : Way0 Tryz.prog true Z (Head0 many workers O w how cs) O (G (Frame.enter Tryz.prog iA #[.int .i64 many, .int .i64 workers, how] .normal) cs) W := by
  rw [enter_at _ Tryz.func12 bodyA_eq]
  have hf := fits_init (N := 62) (args := [.int .i64 many, .int .i64 workers, how]) (by simp)
  replace hf : Fits 62 [(0, .int .i64 many), (1, .int .i64 workers), (2, how)] _ := hf
  refine .ctl rfl (fun _ => stepG_seq) ?_
  refine way_code (Q := fun e σ w' => e = .normal ∧ ∃ bh, St w No w' [blk bh 46 [how]] ∧ Sub [(0, .int .i64 many), (1, .int .i64 workers), (5, .pointer (some ⟨bh, 0, none⟩))] σ) tabOk (by decide) hf hl ?_ ?_
  · have hS := St.start w No
    (conv => whnf)
    have ec : cellsL how = [how] := cellsL_one hh
    rw [ec]
    refine hS.new (fun b w' hb hS => ?_)
    replace hS : St w No w' [blk b 46 [how]] := hS
    (conv => whnf)
    exact ⟨rfl, b, hS, rfl, rfl, rfl, trivial⟩
  rintro e σ1 a1 w1 O1 W1 ho1 hl1 hf1 ⟨rfl, bh, hS1, hs1⟩ _
  replace hf1 := hf1.weaken hs1.look_
  show Way0 _ _ _ _ _ _ _
  refine .ctl rfl (fun _ => stepG_seq) ?_
  refine way_code (Q := fun e σ w' => e = .normal ∧ ∃ ct cb bt bb, St w1 No w' [chE ct, chE cb, blk bt 63 [.chan (some ct)], blk bb 64 [.chan (some cb)]] ∧ Sub [(0, .int .i64 many), (1, .int .i64 workers), (5, .pointer (some ⟨bh, 0, none⟩)), (8, .pointer (some ⟨bt, 0, none⟩)), (9, .pointer (some ⟨bb, 0, none⟩))] σ) tabOk (by decide) hf1 hl1 ?_ ?_
  · (conv => whnf)
    refine DrawC.cut _ (regionA1 w1) ?_
    rintro _ w2 ⟨ct, cb, bt, bb, rfl, hS⟩
    (conv => whnf)
    exact ⟨rfl, ct, cb, bt, bb, st_rebase hS (Ext.drawn _ _ _), rfl, rfl, rfl, rfl, rfl, trivial⟩
  rintro e σ2 a2 w2 O2 W2 ho2 hl2 hf2 ⟨rfl, ct, cb, bt, bb, hS2, hs2⟩ _
  replace hf2 := hf2.weaken hs2.look_
  show Way0 _ _ _ _ _ _ _
  refine .ctl rfl (fun _ => stepG_seq) ?_
  refine way_code (Q := fun e σ w' => e = .normal ∧ ∃ Wg, St w2 No w' [blk Wg 74 [.int .u64 0, .int .u32 0]] ∧ Sub (sgA many workers ct cb Wg bt bh bb) σ) tabOk (by decide) hf2 hl2 ?_ ?_
  · have hS := St.start w2 No
    (conv => whnf)
    refine ⟨_, (by kernel_rfl : (Tryz.prog.info? 74).bind (·.zero) = some (.agg #[.int .u64 0, .int .u32 0])), ?_⟩
    refine hS.new (fun b w' hb hS => ?_)
    (conv => whnf)
    exact ⟨rfl, b, hS, rfl, rfl, rfl, rfl, rfl, rfl, trivial⟩
  rintro e σ3 a3 w3 O3 W3 ho3 hl3 hf3 ⟨rfl, Wg, hS3, hs3⟩ _
  replace hf3 := hf3.weaken hs3.look_
  show Way0 _ _ _ _ _ _ _
  refine .ctl rfl (fun _ => stepG_seq) ?_
  refine .ctl rfl (fun _ => stepG_seq) ?_
  refine way_code (Q := fun e σ w' => e = .normal ∧ w' = w3 ∧ Sub ((17, .int .i64 workers) :: (18, .int .i64 (0 : Nat)) :: sgA many workers ct cb Wg bt bh bb) σ) tabOk (by decide) hf3 hl3 ?_ ?_
  · (conv => whnf)
    exact ⟨rfl, rfl, rfl, rfl, rfl, rfl, rfl, rfl, rfl, rfl, trivial⟩
  rintro e σ4 a4 w4 O4 W4 ho4 hl4 hf4 ⟨rfl, rfl, hs4⟩ _
  replace hf4 := hf4.weaken hs4.look_
  show Way0 _ _ _ _ _ _ _
  refine .ctl rfl (fun _ => stepG_block) ?_
  refine .ctl rfl (fun _ => stepG_loop) ?_
  have eb := (hS1.blk 0 rfl)
  have ebl := (hS1.may _ (List.mem_cons_self ..) bh (by simp [blk])).2
  have e1 : w4.heap[ct]? = some (.chan 0 #[] false 0 0 false) := (hS3.ext.block ct (hS2.may (chE ct) (by simp) ct (by simp [chE])).2 id).trans (hS2.get 0 rfl)
  have e2 : w4.heap[cb]? = some (.chan 0 #[] false 0 0 false) := (hS3.ext.block cb (hS2.may (chE cb) (by simp) cb (by simp [chE])).2 id).trans (hS2.get 1 rfl)
  have e3 : Blk w4 Wg 74 [.int .u64 0, .int .u32 0] := hS3.blk 0 rfl
  have e4 : Blk w4 bt 63 [.chan (some ct)] := hS3.ext.blk (hS2.blk 2 rfl) id
  have e5 : Blk w4 bb 64 [.chan (some cb)] := hS3.ext.blk (hS2.blk 3 rfl) id
  have e6 : Blk w4 bh 46 [how] := hS3.ext.blk (hS2.ext.blk eb id) id
  have n1 := (hS1.may (blk bh 46 [how]) (by simp) bh (by simp [blk])).1.resolve_left id
  have s1 := hS1.ext.size
  have s2 := hS2.ext.size
  have n2 := (hS2.may (chE ct) (by simp) ct (by simp [chE])).1.resolve_left id
  have n3 := (hS2.may (chE cb) (by simp) cb (by simp [chE])).1.resolve_left id
  have n4 := (hS2.may (blk bt 63 [.chan (some ct)]) (by simp) bt (by simp [blk])).1.resolve_left id
  have n5 := (hS2.may (blk bb 64 [.chan (some cb)]) (by simp) bb (by simp [blk])).1.resolve_left id
  have n6 := (hS3.may (blk Wg 74 [.int .u64 0, .int .u32 0]) (by simp) Wg (by simp [blk])).1.resolve_left id
  have hne : ct ≠ cb := by
    rintro rfl
    exact pairwise_at apart_symm hS2.apart (i := 0) (j := 1) rfl rfl (by decide) ct (by simp [chE]) (by simp [chE])
  obtain ⟨o1, f1⟩ := own_of hl4 e1 (.inr rfl)
  obtain ⟨o2, f2⟩ := own_of hl4 e2 (.inr rfl)
  obtain ⟨o3, f3⟩ := own_of hl4 e3 (.inl ⟨_, _, rfl, by simp⟩)
  obtain ⟨o4, f4⟩ := own_of hl4 e4 (.inl ⟨_, _, rfl, by simp⟩)
  obtain ⟨o5, f5⟩ := own_of hl4 e5 (.inl ⟨_, _, rfl, by simp⟩)
  obtain ⟨o6, f6⟩ := own_of hl4 e6 (.inl ⟨_, _, rfl, by simp⟩)
  refine .stop fun W5 h5 => ⟨⟨ct, cb, Wg, bt, bh, bb, ⟨a4, hf4, rfl⟩, ⟨(h5.keep _ (.inl o1)).trans f1, (h5.keep _ (.inl o2)).trans f2, (h5.keep _ (.inl o3)).trans f3, (h5.keep _ (.inl o4)).trans f4, (h5.keep _ (.inl o5)).trans f5, (h5.keep _ (.inl o6)).trans f6, ?_⟩, ?_⟩, fun b hb => ?_, fun b hb => let ⟨o, _, e2, e3⟩ := hl4.own b hb; ⟨o, (h5.keep b (.inl hb)).trans e2, e3⟩⟩
  rotate_left 2
  · have ob := ho4 b (ho3 b (ho2 b (ho1 b hb)))
    obtain ⟨o, e1, _, _⟩ := hl.own b hb
    have hlt : b < w.heap.size := (Array.getElem?_eq_some_iff.1 e1).1
    obtain ⟨o', e3, e4, _⟩ := hl4.own b ob
    rw [h5.keep b (.inl ob), e4, ← e3, hS3.ext.block b (by omega) id, hS2.ext.block b (by omega) id, hS1.ext.block b hlt id]
  · have d : ∀ {x y : Nat} {o o' : Obj}, w4.heap[x]? = some o → w4.heap[y]? = some o' → o ≠ o' → x ≠ y := fun h h' hn e => by
      subst e
      rw [h] at h'
      exact hn (Option.some.inj h')
    have c1 := d e1 e3 (by simp)
    have c2 := d e1 e4 (by simp)
    have c3 := d e1 e6 (by simp)
    have c4 := d e1 e5 (by simp)
    have c5 := d e2 e3 (by simp)
    have c6 := d e2 e4 (by simp)
    have c7 := d e2 e6 (by simp)
    have c8 := d e2 e5 (by simp)
    have c9 := d e3 e4 (by simp)
    have c10 := d e3 e6 (by simp)
    have c11 := d e3 e5 (by simp)
    have c12 := d e4 e6 (by simp)
    have c13 := d e4 e5 (by simp)
    have c14 := d e6 e5 (by simp)
    simp [hne, c1, c2, c3, c4, c5, c6, c7, c8, c9, c10, c11, c12, c13, c14]
  · intro b hb
    simp only [List.mem_cons, List.not_mem_nil, or_false] at hb
    rcases hb with rfl | rfl | rfl | rfl | rfl | rfl
    · exact ⟨o1, by omega⟩
    · exact ⟨o2, by omega⟩
    · exact ⟨o3, by omega⟩
    · exact ⟨o4, by omega⟩
    · exact ⟨o6, by omega⟩
    · exact ⟨o5, by omega⟩
end
end Go.Proofs.YtgcbcagaibecbaaGreatDoor.Pool

namespace Go.Proofs.YtgcbcagaibecbaaGreatDoor.Pool
set_option maxRecDepth 20000
open Go Go.Conc Gap Ev Go.RowKit
open Go.ConcN (upd upd_same upd_ne WgLive)
open Go.ConcR (Payload WgAt KK)
local instance : Gap.Leaps := noLeaps

section
variable {X : Shop} {Shun : Loc → Prop} {Sh K : Nat → Prop} {gs : Array Goroutine} {W W' : World} {t : Trace} {O : Nat → Nat → Prop} {O1 : Nat → Prop} {a : Goroutine} {sl : Option (Nat × Nat)} {d0 : Nat}
theorem Idle.less (h : Idle X d0 Shun Sh K gs W t O) (h1 : ∀ b, O1 b → O 0 b) : Idle X d0 Shun Sh K gs W t (upd O 0 O1) := by
  have sub : ∀ g b, upd O 0 O1 g b → O g b := fun g b hb => by
    by_cases hg : g = 0
    · subst hg; rw [upd_same] at hb; exact h1 b hb
    · rwa [upd_ne _ _ hg] at hb
  have ap := h.core.apart
  have tk := h.core.tok
  refine ⟨⟨fun j x hj => ?_, h.core.above, ⟨tk.clean, fun g b hb => tk.own g b (sub g b hb), tk.shr, tk.sh, tk.low, tk.known, tk.over, tk.norel, fun l b hl hb => ⟨fun g hg => (tk.off l b hl hb).1 g (sub g b hg), (tk.off l b hl hb).2⟩⟩,
    ⟨fun g k b hgk hg hk => ap.two g k b hgk (sub g b hg) (sub k b hk), fun g b hb => ap.shr g b (sub g b hb), fun g b hb => ap.sh g b (sub g b hb), ap.zsh, fun g b hb => ap.lo g b (sub g b hb), ap.loZ, ap.loS⟩⟩, h.sh, h.chan, h.kin⟩
  have hs := h.core.sit j x hj
  refine ⟨hs.1, fun h0 => ?_⟩
  rw [upd_ne _ _ h0]
  exact hs.2 h0
theorem walk (ok : X.Ok) {Stop : (Nat → Prop) → Goroutine → World → Prop} (hI : Idle X d0 Shun Sh K gs W t O) (h0 : gs[0]? = some a) (O1 : Nat → Prop) (h1 : ∀ b, O1 b → O 0 b) (hw : Way0 X.P true X.Z Stop O1 a W) :
    Comes X.P (crowd gs W sl) t fun m' t' => ∃ gs' W' sl' O' a', m' = crowd gs' W' sl' ∧ Idle X d0 Shun Sh K gs' W' t' O' ∧ gs'[0]? = some a' ∧ gs'.size = gs.size ∧ (∀ b, Sh b ∨ X.Z b → W'.heap[b]? = W.heap[b]?) ∧ Stop (O' 0) a' W' ∧ Abv (fun b => O1 b ∨ W.heap.size ≤ b) O1 W.heap.size W (O' 0) W' :=
  (beside ok (above (p := fun b => O1 b ∨ W.heap.size ≤ b) (q := O1) (n := W.heap.size) (w0 := W) (fun _ h => .inr h) hw ⟨fun _ h => .inl h, fun _ h => h, Nat.le_refl _, .refl W⟩) gs t (upd O 0 O1) sl (upd_same _ _ _) (hI.less h1) h0).mono fun m' t' ⟨gs', W', sl', O', a', x1, x2, x3, x4, _, x6, x7⟩ => ⟨gs', W', sl', O', a', x1, x2, x3, x4, x6, x7 W' (.refl W')⟩
end

section
variable {P : Program} {W : World} {b : Frame} {a : Act} {k : List Item} {cs : List Frame} {ops : Array Oper} {i : Nat} {rest : List Nat} {o : Oper} {Z : Nat → Prop}
theorem box_step {t : TypeId} {x : Operand} {v : Value} (ho : ops[i]? = some o) (hw : Region.wanted o (yielded ops a.tmps) = true) (hk : b.kind ≠ .early) (hop : o.op = .box t x) (hx : a.eval x = v) (Z : Nat → Prop) (W : World) :
    ∃ es, stepG P true (G (b.at a (.inRegion ops (i :: rest) :: k)) cs) W = .go (G (b.at (a.put o.dst (.pointer (some ⟨W.heap.size, 0, none⟩))) (.inRegion ops rest :: k)) cs) (pushBlk W t (cellsL v)) es ∧
      Guar (fun _ => False) Z W (pushBlk W t (cellsL v)) es := by
  have he : execOp a.eval o = (do pure (Next.value (← Instr.box t v))) := by unfold execOp; simp only [hop, hx]
  have hr : (execOp a.eval o).run P W = .ok (.value (.pointer (some ⟨W.heap.size, 0, none⟩))) (pushBlk W t (cellsL v)) := by rw [he]; exact vrun new_run
  have hp : Plain P (execOp a.eval o) := by rw [he]; exact plain_v (plain_box _ _)
  have hl : Lag (fun _ => False) Z (view (fun _ => False) Z W) W := view_lag fun b h => h.elim
  have hr2 : (execOp a.eval o).run P (view (fun _ => False) Z W) = .ok (.value (.pointer (some ⟨(view (fun _ => False) Z W).heap.size, 0, none⟩))) (pushBlk (view (fun _ => False) Z W) t (cellsL v)) := by rw [he]; exact vrun new_run
  obtain ⟨W', hD, _⟩ := plain_run _ _ _ _ _ _ hp hl hr2 (.inl ⟨by simp [view], rfl⟩)
  have e := hD.run
  rw [hr] at e
  injection e with _ e
  subst e
  exact ⟨_, stepG_value ho hw hk hr, hD.guar fun e he => mem_listed he⟩
end

abbrev iG : Nat := 25
noncomputable def tailG : Code := second (fnG.body.getD .skip)
theorem bodyG_eq : fnG.body = some (.seq (.region 0 (regs fnG 0) false) (.seq (.region 1 (regs fnG 1) false) (.region 2 (regs fnG 2) false))) := rfl
theorem roundS_eq : round fnA 0 = .seq (.region 4 (regs fnA 4) false) (.seq (.cond (.tmp 19) .skip (.exit 0)) (.seq (.block 1 (.region 5 (regs fnA 5) false)) (.region 6 (regs fnA 6) false))) := rfl
def headS (J : Job) (workers k : Nat) : Slots := (17, .int .i64 workers) :: (18, .int .i64 k) :: sgA J.many workers J.ct J.cb J.Wg J.bt J.bh J.bb
noncomputable def frS (a : Act) : Frame := (base iA).at a [.inRegion (regs fnA 5) [1], .inBlock 1, .code (.region 6 (regs fnA 6) false), .inLoop (round fnA 0), .inBlock 0, .code tailA]
def argF (J : Job) : Value := .func (.func iA1) #[] (capsA J)
noncomputable def goBox (J : Job) (a : Act) (cs : List Frame) : Goroutine := G ((base iG).at ⟨#[.pointer (some ⟨J.Wg, 0, none⟩), argF J, undef, undef, undef, undef, undef], []⟩ [.inRegion (regs fnG 0) [0, 1], .code (.seq (.region 1 (regs fnG 1) false) (.region 2 (regs fnG 2) false))]) (frS a :: cs)
section
variable {J : Job} {Z : Nat → Prop} {O : Nat → Prop} {W w : World} {cs : List Frame} {workers k C : Nat} {g : Goroutine}
theorem callV_enter {P : Program} {main : Bool} {b : Frame} {a : Act} {ops : Array Oper} {i : Nat} {rest : List Nat} {items : List Item} {o : Oper} {f : FuncId} {fn : Func} {x : Array Operand} {ats : Array TypeId} {args : Array Value} {c : Code} (ho : ops[i]? = some o) (hw : Region.wanted o (yielded ops a.tmps) = true) (hk : b.kind ≠ .early)
    (hop : o.op = .call { callee := .value (.func f), args := x, argTypes := ats }) (hx : x.map a.eval = args) (hf : P.funcs[f]? = some fn) (hname : (fn.name == "runtime.NumGoroutine") = false) (hb : fn.body = some c) (w : World) :
    stepG P main (G (b.at a (.inRegion ops (i :: rest) :: items)) cs) w = .go (G (Frame.enter P f args .normal) (b.at a (.inRegion ops (i :: rest) :: items) :: cs)) w #[] := by
  have hb' : fn.body.isNone = false := by rw [hb]; rfl
  subst hx
  rw [stepG_enter ho hw hk (run_call_body hop hf hname hb')]
  have : listed P b.fn a o w = #[] := by unfold listed; rw [events_call_body hop hf hname hb']; exact seen_none P _
  rw [this]
theorem st_head (hk : k < workers) (hlim : workers ≤ 1000) {a : Act} (hf : Fits 62 (headS J workers k) a) :
    Way0 Tryz.prog true Z (fun _ g _ => ∃ a', Fits 62 (headS J workers k) a' ∧ g = goBox J a' cs) (fun _ => False) (G ((base iA).at a [.code (round fnA 0), .inLoop (round fnA 0), .inBlock 0, .code tailA]) cs) W := by
  have hl : Lag (fun _ => False) Z (view (fun _ => False) Z W) W := view_lag fun b h => h.elim
  generalize view (fun _ => False) Z W = w at hl
  rw [roundS_eq]
  refine .ctl rfl (fun _ => stepG_seq) ?_
  refine way_code (Q := fun e σ w' => e = .normal ∧ w' = w ∧ Sub ((19, .bool true) :: headS J workers k) σ) tabOk (by decide) hf hl ?_ ?_
  · (conv => whnf)
    have e : decide ((k : Int) < (workers : Int)) = true := decide_eq_true (by omega)
    refine ⟨rfl, rfl, ?_⟩
    rw [e]
    exact ⟨rfl, rfl, rfl, rfl, rfl, rfl, rfl, rfl, rfl, trivial⟩
  rintro e σ1 a1 w1 O1 W1 ho1 hl1 hf1 ⟨rfl, rfl, hs1⟩ _
  replace hf1 := hf1.weaken hs1.look_
  show Way0 _ _ _ _ _ _ _
  refine .ctl rfl (fun _ => stepG_seq) ?_
  refine .ctl rfl (fun _ => stepG_cond (t := true) (ro_eval hf1 rfl)) ?_
  refine .ctl rfl (fun _ => stepG_skip) ?_
  refine .ctl rfl (fun _ => stepG_seq) ?_
  refine .ctl rfl (fun _ => stepG_block) ?_
  refine .ctl rfl (fun _ => stepG_region) ?_
  refine way_ops (Q := fun σ w' => w' = w1 ∧ Sub ((20, argF J) :: headS J workers k) σ) (tail := [1]) tabOk 0 1 rfl (by decide) hf1 hl1 ?_ ?_
  · (conv => whnf)
    exact ⟨rfl, rfl, rfl, rfl, rfl, rfl, rfl, rfl, rfl, rfl, trivial⟩
  rintro σ2 a2 w2 O2 W2 ho2 hl2 hf2 ⟨rfl, hs2⟩
  replace hf2 := hf2.weaken hs2.look_
  have hargs : (#[Operand.tmp 10, Operand.tmp 20]).map a2.eval = #[.pointer (some ⟨J.Wg, 0, none⟩), argF J] := by
    simp only [List.map_toArray, List.map_cons, List.map_nil, ro_eval hf2 (x := .tmp 10) rfl, ro_eval hf2 (x := .tmp 20) rfl]
  refine .ctl rfl (fun w => callV_enter (f := iG) (args := #[.pointer (some ⟨J.Wg, 0, none⟩), argF J]) rfl rfl (by decide) rfl hargs Tryz.func25 (by kernel_rfl) bodyG_eq w) ?_
  rw [enter_at _ Tryz.func25 bodyG_eq]
  refine .ctl rfl (fun _ => stepG_seq) ?_
  refine .ctl rfl (fun _ => stepG_region) ?_
  exact .stop fun W3 _ => ⟨a2, hf2.weaken fun n v h => by
    have hn : n ≠ 20 := by rintro rfl; simp [headS, sgA, Ev.look] at h
    show (match Nat.beq 20 n with | true => some (argF J) | false => Ev.look (headS J workers k) n) = some v
    cases hb : Nat.beq 20 n with
    | true => exact absurd (Nat.eq_of_beq_eq_true hb).symm hn
    | false => exact h, rfl⟩
end
end Go.Proofs.YtgcbcagaibecbaaGreatDoor.Pool

namespace Go.Proofs.YtgcbcagaibecbaaGreatDoor.Pool
set_option maxRecDepth 20000
open Go Go.Conc Gap Ev Go.RowKit Go.Conc.Lib
open Go.ConcN (upd upd_same upd_ne WgLive)
open Go.ConcR (Payload WgAt KK)
local instance : Gap.Leaps := noLeaps

theorem fine_of_none {Sh Z O O' : Nat → Prop} {g : Nat} {W W' : World} {es : Array Event} (h : Guar (fun _ => False) Z W W' es) (ho : ∀ b, O' b → (O b ∨ W.heap.size ≤ b) ∧ b < W'.heap.size) (hn : ∀ b, W.heap.size ≤ b → b < W'.heap.size → O' b) : Fine Sh Z O O' g W W' es := by
  have hev : ∀ e ∈ es, EvOk O' Z e := fun e he => (h.evs e he).mono fun b hb => hb.elim (fun x => x.elim) fun x => hn b x.1 x.2
  exact ⟨h.os, h.tape, h.output, h.size, fun b hb _ _ => h.keep b hb id, ho, fun e he => ⟨(touch_of_evOk (hev e he)).1, (touch_of_evOk (Sh := Sh) (g := g) (hev e he)).2.1⟩⟩

noncomputable def goA (J : Job) (C : Nat) (a : Act) (cs : List Frame) : Goroutine := G ((base iG).at ⟨#[.pointer (some ⟨J.Wg, 0, none⟩), argF J, .pointer (some ⟨C, 0, none⟩), .pointer (some ⟨C + 1, 0, none⟩), undef, undef, undef], []⟩ [.inRegion (regs fnG 0) [], .code (.seq (.region 1 (regs fnG 1) false) (.region 2 (regs fnG 2) false))]) (frS a :: cs)
structure OwnC (J : Job) (C : Nat) (w : World) : Prop where
  wg : w.cell? ⟨C, 0, none⟩ = some (.pointer (some ⟨J.Wg, 0, none⟩))
  fn : w.cell? ⟨C + 1, 0, none⟩ = some (argF J)
section
variable {J : Job} {Ans : Nat → Value → Value → Ent → Prop} {Z : Nat → Prop} {O : Nat → Prop} {W w w1 : World} {cs : List Frame} {workers k C : Nat} {g : Goroutine}
theorem OwnC.keep (h : OwnC J C w) (k : ∀ b, Mine C b → w1.heap[b]? = w.heap[b]?) : OwnC J C w1 := ⟨cell_stands h.wg (k _ (.inl rfl)), cell_stands h.fn (k _ (.inr rfl))⟩
theorem OwnC.lag {O : Nat → Prop} (h : OwnC J C w) (hl : Lag O Z w W) : OwnC J C W := ⟨(hl.cell h.wg).1, (hl.cell h.fn).1⟩
theorem OwnC.view (h : OwnC J C W) : Lag (Mine C) Z (view (Mine C) Z W) W ∧ OwnC J C (Pool.view (Mine C) Z W) := ⟨view_lag fun b hb => by
    rcases hb with rfl | rfl
    · exact cell_obj h.wg
    · exact cell_obj h.fn, view_cell (.inl (.inl rfl)) h.wg, view_cell (.inl (.inr rfl)) h.fn⟩

theorem st_boxes (ok : (shopJ J Ans).Ok) {Shun : Loc → Prop} {Sh K : Nat → Prop} {gs : Array Goroutine} {t : Trace} {O : Nat → Nat → Prop} {sl : Option (Nat × Nat)} {a : Act} {d0 : Nat} (hI : Idle (shopJ J Ans) d0 Shun Sh K gs W t O) (h0 : gs[0]? = some (goBox J a cs)) (hlv : WgLive 74 J.Wg W) (hct : ∃ o, W.heap[J.ct]? = some o) :
    Comes Tryz.prog (crowd gs W sl) t fun m' t' => ∃ gs' W' sl' O', m' = crowd gs' W' sl' ∧ Idle (shopJ J Ans) d0 Shun Sh K gs' W' t' O' ∧ gs'[0]? = some (goA J W.heap.size a cs) ∧ gs'.size = gs.size ∧ (∀ b, Mine W.heap.size b → O' 0 b) ∧ OwnC J W.heap.size W' ∧ (∀ b, b < W.heap.size → W'.heap[b]? = W.heap[b]?) ∧ Sm W W' := by
  have hI := hI.less (O1 := fun _ => False) fun _ h => h.elim
  obtain ⟨octv, hct⟩ := hct
  have hctl : J.ct < W.heap.size := (Array.getElem?_eq_some_iff.1 hct).1
  have hwgl : J.Wg < W.heap.size := by obtain ⟨st, sm, h⟩ := hlv; exact (Array.getElem?_eq_some_iff.1 h).1
  have pb : ∀ (W : World) (t : TypeId) (cs : List Value) (b : Nat), b < W.heap.size → (pushBlk W t cs).heap[b]? = W.heap[b]? := fun W t cs b hb => by
    show (W.heap.push _)[b]? = _
    rw [Array.getElem?_push, if_neg (by omega)]
  refine (take (X := shopJ J Ans) (sl := sl) (d1 := d0) (Q := fun a' W' es O' => ∃ e, W' = pushBlk (W.at e) 102 [.pointer (some ⟨J.Wg, 0, none⟩)] ∧ O' = (fun b => b = W.heap.size) ∧ a' = G ((base iG).at ⟨#[.pointer (some ⟨J.Wg, 0, none⟩), argF J, .pointer (some ⟨W.heap.size, 0, none⟩), undef, undef, undef, undef], []⟩ [.inRegion (regs fnG 0) [1], .code (.seq (.region 1 (regs fnG 1) false) (.region 2 (regs fnG 2) false))]) (frS a :: cs)) ok rfl hI h0 fun e => ?_).bind fun m' t' ⟨gs', W1, sl1, O1, a1, es, hm, hI1, h01, hsz, e, hW1, hO1, ha1⟩ => ?_
  · obtain ⟨es, hst, hgu⟩ := box_step (P := Tryz.prog) (b := base iG) (a := ⟨#[.pointer (some ⟨J.Wg, 0, none⟩), argF J, undef, undef, undef, undef, undef], []⟩) (k := [.code (.seq (.region 1 (regs fnG 1) false) (.region 2 (regs fnG 2) false))]) (cs := frS a :: cs) (ops := regs fnG 0) (i := 0) (rest := [1]) (v := .pointer (some ⟨J.Wg, 0, none⟩)) rfl rfl (by decide) rfl rfl J.Z (W.at e)
    refine ⟨_, _, es, fun b => b = W.heap.size, hst, fine_of_none hgu (fun b hb => ?_) fun b h1 h2 => ?_, flat_evOk hgu.evs d0, fun _ ⟨st, sm, h⟩ => ⟨st, sm, (pb _ _ _ _ hwgl).trans h⟩, fun _ => pb _ _ _ _ hctl, e, rfl, rfl, rfl⟩
    · subst hb
      exact ⟨.inr (Nat.le_refl _), by simp [pushBlk, World.at]⟩
    · simp only [pushBlk, World.at, Array.size_push] at h1 h2
      omega
  · subst hm hW1 hO1 ha1
    have hsm1 : Sm W (pushBlk (W.at e) 102 [.pointer (some ⟨J.Wg, 0, none⟩)]) := ⟨rfl, rfl, rfl⟩
    have hsize : (pushBlk (W.at e) 102 [.pointer (some ⟨J.Wg, 0, none⟩)]).heap.size = W.heap.size + 1 := by simp [pushBlk, World.at]
    have hl1 : WgLive 74 J.Wg (pushBlk (W.at e) 102 [.pointer (some ⟨J.Wg, 0, none⟩)]) := let ⟨st, sm, h⟩ := hlv; ⟨st, sm, (pb _ _ _ _ hwgl).trans h⟩
    have hb1 : (pushBlk (W.at e) 102 [.pointer (some ⟨J.Wg, 0, none⟩)]).heap[W.heap.size]? = some (.cells #[.pointer (some ⟨J.Wg, 0, none⟩)] 102 (0, 0)) := by
      show (W.heap.push _)[W.heap.size]? = _
      rw [Array.getElem?_push, if_pos rfl]
    have hold : ∀ b, b < W.heap.size → (pushBlk (W.at e) 102 [.pointer (some ⟨J.Wg, 0, none⟩)]).heap[b]? = W.heap[b]? := fun b hb => pb _ _ _ _ hb
    generalize pushBlk (W.at e) 102 [.pointer (some ⟨J.Wg, 0, none⟩)] = W1 at hI1 hsize hl1 hb1 hold hsm1
    refine (take (X := shopJ J Ans) (sl := sl1) (d1 := d0) (Q := fun a' W' es O' => ∃ e, W' = pushBlk (W1.at e) 1 [argF J] ∧ O' = Mine W.heap.size ∧ a' = goA J W.heap.size a cs) ok rfl hI1 h01 fun e => ?_).mono fun m' t' ⟨gs2, W2, sl2, O2, a2, es, hm, hI2, h02, hsz2, e2, hW2, hO2, ha2⟩ => ?_
    · obtain ⟨es, hst, hgu⟩ := box_step (P := Tryz.prog) (b := base iG) (a := ⟨#[.pointer (some ⟨J.Wg, 0, none⟩), argF J, .pointer (some ⟨W.heap.size, 0, none⟩), undef, undef, undef, undef], []⟩) (k := [.code (.seq (.region 1 (regs fnG 1) false) (.region 2 (regs fnG 2) false))]) (cs := frS a :: cs) (ops := regs fnG 0) (i := 1) (rest := []) (v := argF J) rfl rfl (by decide) rfl rfl J.Z (W1.at e)
      have hs1 : (W1.at e).heap.size = W.heap.size + 1 := hsize
      rw [hs1] at hst
      refine ⟨_, _, es, Mine W.heap.size, hst, fine_of_none hgu (fun b hb => ?_) fun b h1 h2 => ?_, flat_evOk hgu.evs d0, fun _ ⟨st, sm, h⟩ => ⟨st, sm, (pb _ _ _ _ (by rw [hs1]; show J.Wg < _; omega)).trans h⟩, fun _ => pb _ _ _ _ (by rw [hs1]; show J.ct < _; omega), e, rfl, rfl, rfl⟩
      · have hp : (pushBlk (W1.at e) 1 (cellsL (argF J))).heap.size = W.heap.size + 2 := by simp [pushBlk, World.at, hsize]
        rw [hp]
        rcases hb with rfl | rfl
        · exact ⟨.inl (by rw [upd_same]), by omega⟩
        · exact ⟨.inr (by rw [hs1]; exact Nat.le_refl _), by omega⟩
      · simp only [pushBlk, World.at, Array.size_push] at h1 h2
        right
        omega
    · subst hm hW2 hO2 ha2
      refine ⟨gs2, _, sl2, _, rfl, hI2, h02, hsz2.trans hsz, fun b hb => by rw [upd_same]; exact hb, ⟨?_, ?_⟩, fun b hb => (pb _ _ _ _ (by show b < W1.heap.size; omega)).trans (hold b hb), hsm1.trans ⟨rfl, rfl, rfl⟩⟩
      · have : (pushBlk (W1.at e2) 1 [argF J]).heap[W.heap.size]? = _ := (pb _ _ _ _ (by show W.heap.size < W1.heap.size; omega)).trans hb1
        simp [World.cell?, this]
      · have : (pushBlk (W1.at e2) 1 [argF J]).heap[W.heap.size + 1]? = some (.cells #[argF J] 1 (0, 0)) := by
          show (W1.heap.push _)[W.heap.size + 1]? = _
          rw [Array.getElem?_push, if_pos hsize.symm]
        simp [World.cell?, this]
end
end Go.Proofs.YtgcbcagaibecbaaGreatDoor.Pool

namespace Go.Proofs.YtgcbcagaibecbaaGreatDoor.Pool
set_option maxRecDepth 20000
open Go Go.Conc Gap Ev Go.RowKit Go.Conc.Lib
open Go.ConcN (upd upd_same upd_ne WgLive)
open Go.ConcR (Payload WgAt KK)
local instance : Gap.Leaps := noLeaps

abbrev iAdd : Nat := 42
noncomputable def goAdd (ix : List Nat) (a2 a : Act) (cs : List Frame) : Goroutine := G ((base iG).at a2 [.inRegion (regs fnG 1) ix, .code (.region 2 (regs fnG 2) false)]) (frS a :: cs)
noncomputable def goGo (ix : List Nat) (a2 a : Act) (cs : List Frame) : Goroutine := G ((base iG).at a2 [.inRegion (regs fnG 2) ix]) (frS a :: cs)
section
variable {J : Job} {Ans : Nat → Value → Value → Ent → Prop} {Z : Nat → Prop} {W w w1 : World} {cs : List Frame} {workers k C : Nat} {a : Act}
theorem st_toAdd (h : OwnC J C W) : Way0 Tryz.prog true Z (fun O g W' => (∃ a2, Fits 7 [(2, .pointer (some ⟨C, 0, none⟩)), (3, .pointer (some ⟨C + 1, 0, none⟩)), (4, .pointer (some ⟨J.Wg, 0, none⟩))] a2 ∧ g = goAdd [1] a2 a cs) ∧ (∀ b, Mine C b → O b) ∧ OwnC J C W') (Mine C) (goA J C a cs) W := by
  obtain ⟨hl, hw⟩ := h.view (Z := Z)
  generalize view (Mine C) Z W = w at hl hw
  unfold goA
  refine .ctl rfl (fun _ => stepG_region_end) ?_
  refine .ctl rfl (fun _ => stepG_seq) ?_
  refine .ctl rfl (fun _ => stepG_region) ?_
  refine way_ops (N := 7) (σ := [(2, .pointer (some ⟨C, 0, none⟩)), (3, .pointer (some ⟨C + 1, 0, none⟩))]) (Q := fun σ w' => w' = w ∧ σ = [(4, .pointer (some ⟨J.Wg, 0, none⟩)), (2, .pointer (some ⟨C, 0, none⟩)), (3, .pointer (some ⟨C + 1, 0, none⟩))]) (tail := [1]) tabOk 0 1 rfl (by decide) (fits_of rfl ⟨rfl, rfl, trivial⟩) hl ?_ ?_
  · (conv => whnf)
    refine ldc hw.wg ?_
    (conv => whnf)
    exact ⟨rfl, rfl⟩
  rintro σ2 a2 w2 O2 W2 ho2 hl2 hf2 ⟨rfl, rfl⟩
  refine .stop fun W3 h3 => ⟨⟨a2, hf2.weaken (Sub.look_ ⟨rfl, rfl, rfl, trivial⟩), rfl⟩, fun b hb => ho2 b hb, (hw.lag hl2).keep fun b hb => h3.keep b (.inl (ho2 b hb))⟩
theorem st_add {v : Nat} (hv : v < 2147483647) {a2 : Act} (hf : Fits 7 [(2, .pointer (some ⟨C, 0, none⟩)), (3, .pointer (some ⟨C + 1, 0, none⟩)), (4, .pointer (some ⟨J.Wg, 0, none⟩))] a2) (hw : WgAt 74 J.Wg W (v * KK) 0) :
    Run1 Tryz.prog 74 J.Wg (fun d g w' => d = 0 ∧ (∃ a3, Fits 7 [(2, .pointer (some ⟨C, 0, none⟩)), (3, .pointer (some ⟨C + 1, 0, none⟩))] a3 ∧ g = goAdd [] a3 a cs) ∧ WgAt 74 J.Wg w' ((v + 1 : Nat) * KK) 0) 0 (goAdd [1] a2 a cs) W := by
  have hargs : (#[Operand.tmp 4, Operand.const (.int .i64 1)]).map a2.eval = #[.pointer (some ⟨J.Wg, 0, none⟩), .int .i64 1] := by
    simp only [List.map_toArray, List.map_cons, List.map_nil, ro_eval hf (x := .tmp 4) rfl, ro_eval hf (x := .const (.int .i64 1)) rfl]
  refine Run1.next (F := id) rfl (fun e => ⟨callV_enter (f := iAdd) (args := #[.pointer (some ⟨J.Wg, 0, none⟩), .int .i64 1]) rfl rfl (by decide) rfl hargs Tryz.func42 (by kernel_rfl) rfl _, ⟨rfl, rfl, rfl, rfl, fun _ _ => rfl⟩, id⟩) (by simp) rfl fun e => ?_
  have := addPos (L := wgL) wgH (Wg := J.Wg) (v := v) hv (b₀ := base iG) (a₀ := a2) (ops₀ := regs fnG 1) (i₀ := 1) (rest₀ := []) (k₀ := [.code (.region 2 (regs fnG 2) false)]) (cs := frS a :: cs) (W.at e) hw
  refine this.mono fun d g w' ⟨h1, h2, h3⟩ => ⟨h1, ⟨_, ?_, h2⟩, h3⟩
  exact (hf.put (d := 5) (by decide) (.tuple #[])).weaken (Sub.look_ ⟨rfl, rfl, trivial⟩)
theorem st_toGo (h : OwnC J C W) {a3 : Act} (hf : Fits 7 [(2, .pointer (some ⟨C, 0, none⟩)), (3, .pointer (some ⟨C + 1, 0, none⟩))] a3) : Way0 Tryz.prog true Z (fun O g W' => (∃ a4, Fits 7 [(6, .func (.func iG1) #[] #[.pointer (some ⟨C, 0, none⟩), .pointer (some ⟨C + 1, 0, none⟩)])] a4 ∧ g = goGo [1] a4 a cs) ∧ (∀ b, Mine C b → O b) ∧ OwnC J C W') (Mine C) (goAdd [] a3 a cs) W := by
  obtain ⟨hl, hw⟩ := h.view (Z := Z)
  generalize view (Mine C) Z W = w at hl hw
  unfold goAdd
  refine .ctl rfl (fun _ => stepG_region_end) ?_
  refine .ctl rfl (fun _ => stepG_region) ?_
  refine way_ops (N := 7) (Q := fun σ w' => w' = w ∧ σ = [(6, .func (.func iG1) #[] #[.pointer (some ⟨C, 0, none⟩), .pointer (some ⟨C + 1, 0, none⟩)]), (2, .pointer (some ⟨C, 0, none⟩)), (3, .pointer (some ⟨C + 1, 0, none⟩))]) (tail := [1]) tabOk 0 1 rfl (by decide) hf hl ?_ ?_
  · (conv => whnf)
    exact ⟨rfl, rfl⟩
  rintro σ2 a2 w2 O2 W2 ho2 hl2 hf2 ⟨rfl, rfl⟩
  refine .stop fun W3 h3 => ⟨⟨a2, hf2.weaken (Sub.look_ ⟨rfl, trivial⟩), rfl⟩, fun b hb => ho2 b hb, (hw.lag hl2).keep fun b hb => h3.keep b (.inl (ho2 b hb))⟩
theorem st_go {a4 : Act} (hf : Fits 7 [(6, .func (.func iG1) #[] #[.pointer (some ⟨C, 0, none⟩), .pointer (some ⟨C + 1, 0, none⟩)])] a4) (W : World) :
    stepG Tryz.prog true (goGo [1] a4 a cs) W = .spawn (goGo [] a4 a cs) (Go.Conc.born Tryz.prog (dG1 C)) W #[] := by
  have e6 := ro_eval hf (x := .tmp 6) rfl
  have hr : (execOp a4.eval ((regs fnG 2)[1]'(by decide))).run Tryz.prog W = .ok (.spawn (dG1 C)) W := by
    show (execOp a4.eval ⟨none, .go { callee := .value (.tmp 6), args := #[], argTypes := _ }, _, _, _, _⟩).run Tryz.prog W = _
    unfold execOp
    simp [e6, resolve, Deferred.ofValue, dG1]
  have he : (execOp a4.eval ((regs fnG 2)[1]'(by decide))).events Tryz.prog W #[] = #[] := by
    show (execOp a4.eval ⟨none, .go { callee := .value (.tmp 6), args := #[], argTypes := _ }, _, _, _, _⟩).events Tryz.prog W #[] = _
    unfold execOp
    simp [e6, resolve, Deferred.ofValue]
  unfold goGo
  rw [stepG_spawn rfl rfl (by decide) hr rfl]
  have hl : listed Tryz.prog (base iG).fn a4 ((regs fnG 2)[1]'(by decide)) W = #[] := by unfold listed; rw [he]; exact seen_none _ _
  rw [hl]
  rfl
theorem st_back {a4 a : Act} (hf4 : a4.defers = []) (hf : Fits 62 (headS J workers k) a) (hlim : k ≤ 1000) : Way0 Tryz.prog true Z (fun _ g _ => HeadG J.many workers J.ct J.cb J.Wg J.bt J.bh J.bb (k + 1) cs g) (fun _ => False) (goGo [] a4 a cs) W := by
  have hl : Lag (fun _ => False) Z (view (fun _ => False) Z W) W := view_lag fun b h => h.elim
  generalize view (fun _ => False) Z W = w at hl
  unfold goGo
  refine .ctl rfl (fun _ => stepG_region_end) ?_
  refine .ctl rfl (fun _ => stepG_end) ?_
  refine .ctl rfl (fun w => stepG_leave rfl hf4 Tryz.func25 (results_none rfl _ _ w) (events_results_none rfl _ _)) ?_
  have e : (frS a).finish (.tuple #[]) = (base iA).at (a.put (some 21) (.tuple #[])) [.inRegion (regs fnA 5) [], .inBlock 1, .code (.region 6 (regs fnA 6) false), .inLoop (round fnA 0), .inBlock 0, .code tailA] := by
    unfold frS
    rw [Frame.finish_at]
    rfl
  rw [e]
  have hf1 : Fits 62 (headS J workers k) (a.put (some 21) (.tuple #[])) := (hf.put (d := 21) (by decide) (.tuple #[])).weaken (Sub.look_ ⟨rfl, rfl, rfl, rfl, rfl, rfl, rfl, rfl, trivial⟩)
  refine .ctl rfl (fun _ => stepG_region_end) ?_
  refine .ctl rfl (fun _ => stepG_inBlock) ?_
  refine way_code (Q := fun e σ w' => e = .normal ∧ Sub (headS J workers (k + 1)) σ) tabOk (by decide) hf1 hl ?_ ?_
  · (conv => whnf)
    refine RngC.mk (by omega) (by omega) ?_
    (conv => whnf)
    exact ⟨rfl, rfl, rfl, rfl, rfl, rfl, rfl, rfl, rfl, trivial⟩
  rintro e σ1 a1 w1 O1 W1 ho1 hl1 hf1 ⟨rfl, hs1⟩ _
  replace hf1 := hf1.weaken hs1.look_
  show Way0 _ _ _ _ _ _ _
  refine .ctl rfl (fun _ => stepG_inLoop) ?_
  exact .stop fun W3 _ => ⟨a1, hf1, rfl⟩
end
end Go.Proofs.YtgcbcagaibecbaaGreatDoor.Pool

namespace Go.Proofs.YtgcbcagaibecbaaGreatDoor.Pool
set_option maxRecDepth 20000
open Go Go.Conc Gap Ev Go.RowKit Go.Conc.Lib
open Go.ConcN (upd upd_same upd_ne WgLive)
open Go.ConcR (Payload WgAt KK)
local instance : Gap.Leaps := noLeaps

structure Spawn (J : Job) (Ans : Nat → Value → Value → Ent → Prop) (Shun : Loc → Prop) (Sh : Nat → Prop) (s0 workers k : Nat) (cs : List Frame) (gs : Array Goroutine) (W : World) (t : Trace) (O : Nat → Nat → Prop) : Prop where
  idle : Idle (shopJ J Ans) 0 Shun Sh (fun j => s0 ≤ j ∧ j < gs.size) gs W t O
  head : ∃ a, gs[0]? = some a ∧ HeadG J.many workers J.ct J.cb J.Wg J.bt J.bh J.bb k cs a
  size : gs.size = s0 + k
  wg : WgAt 74 J.Wg W (k * KK) 0
  cht : Chan J.ct W
  chb : Chan J.cb W
  zk : ∀ b, J.Z b → W.heap[b]? = J.W0.heap[b]?
  low : J.W0.heap.size ≤ W.heap.size
  sm : Sm J.W0 W
section
variable {J : Job} {Ans : Nat → Value → Value → Ent → Prop} {Shun : Loc → Prop} {Sh : Nat → Prop} {s0 workers k : Nat} {cs : List Frame} {gs : Array Goroutine} {W W1 : World} {t : Trace} {O : Nat → Nat → Prop} {sl : Option (Nat × Nat)}
theorem Chan.keep {c : Nat} (h : Chan c W) (e : W1.heap[c]? = W.heap[c]?) : Chan c W1 := let ⟨m, tm, x⟩ := h; ⟨m, tm, e.trans x⟩
theorem wgAt_keep {ty : TypeId} {Wg : Nat} {st sm : Int} (h : WgAt ty Wg W st sm) (e : W1.heap[Wg]? = W.heap[Wg]?) : WgAt ty Wg W1 st sm := e.trans h
theorem wgAt_live {ty : TypeId} {Wg : Nat} {st sm : Int} (h : WgAt ty Wg W st sm) : WgLive ty Wg W := ⟨_, _, h⟩
theorem chan_lt {c : Nat} (h : Chan c W) : c < W.heap.size := let ⟨_, _, x⟩ := h; (Array.getElem?_eq_some_iff.1 x).1
theorem wgAt_lt {ty : TypeId} {Wg : Nat} {st sm : Int} (h : WgAt ty Wg W st sm) : Wg < W.heap.size := (Array.getElem?_eq_some_iff.1 h).1
theorem spawn1 (ok : JobOk J) (hH : HowOk J Ans) (pl : Places (shopJ J Ans) Sh) (hk : k < workers) (hlim : workers ≤ 1000) (hs0 : 0 < s0) (h : Spawn J Ans Shun Sh s0 workers k cs gs W t O) :
    Comes Tryz.prog (crowd gs W sl) t fun m' t' => ∃ gs' W' sl' O', m' = crowd gs' W' sl' ∧ Spawn J Ans Shun Sh s0 workers (k + 1) cs gs' W' t' O' := by
  have sok := shop_ok ok hH
  obtain ⟨a0, h0, act, hf, rfl⟩ := h.head
  have pct : Sh J.ct := pl.ct
  have pcb : Sh J.cb := pl.cb
  have pwg : Sh J.Wg := pl.wg
  have nbw : J.cb ≠ J.Wg := pl.bw
  have ntw : J.ct ≠ J.Wg := pl.tw
  refine (walk (sl := sl) sok h.idle h0 (fun _ => False) (fun _ h => h.elim) (st_head (Z := J.Z) hk hlim hf)).bind fun m' t1 ⟨gs1, W1, sl1, O1, g1, hm, hI1, h01, hz1, hk1, ⟨act1, hf1, hg1⟩, hb1⟩ => ?_
  subst hm hg1
  have cht1 := h.cht.keep (hk1 _ (.inl pct))
  have chb1 := h.chb.keep (hk1 _ (.inl pcb))
  have wg1 := wgAt_keep h.wg (hk1 _ (.inl pwg))
  have zk1 : ∀ b, J.Z b → W1.heap[b]? = J.W0.heap[b]? := fun b hb => (hk1 b (.inr hb)).trans (h.zk b hb)
  have loZ : ∀ b, J.Z b → b < W1.heap.size := hI1.core.apart.loZ
  have lo1 : J.W0.heap.size ≤ W1.heap.size := Nat.le_trans h.low hb1.size
  refine (st_boxes (sl := sl1) sok hI1 h01 (wgAt_live wg1) (let ⟨_, _, x⟩ := cht1; ⟨_, x⟩)).bind fun m' t2 ⟨gs2, W2, sl2, O2, hm, hI2, h02, hz2, hO2, hC2, hk2, hs2⟩ => ?_
  subst hm
  have cht2 := cht1.keep (hk2 _ (chan_lt cht1))
  have chb2 := chb1.keep (hk2 _ (chan_lt chb1))
  have wg2 := wgAt_keep wg1 (hk2 _ (wgAt_lt wg1))
  have zk2 : ∀ b, J.Z b → W2.heap[b]? = J.W0.heap[b]? := fun b hb => (hk2 b (loZ b hb)).trans (zk1 b hb)
  have hwC : J.Wg < W1.heap.size := wgAt_lt wg1
  have hC2s : W1.heap.size < W2.heap.size := cell_lt hC2.wg
  generalize W1.heap.size = C at h02 hO2 hC2 loZ hwC lo1 hC2s
  refine (walk (sl := sl2) sok hI2 h02 (Mine C) hO2 (st_toAdd (Z := J.Z) hC2)).bind fun m' t3 ⟨gs3, W3, sl3, O3, g3, hm, hI3, h03, hz3, hk3, ⟨⟨act3, hf3, hg3⟩, hO3, hC3⟩, hb3⟩ => ?_
  subst hm hg3
  have cht3 := cht2.keep (hk3 _ (.inl pct))
  have chb3 := chb2.keep (hk3 _ (.inl pcb))
  have wg3 := wgAt_keep wg2 (hk3 _ (.inl pwg))
  have zk3 : ∀ b, J.Z b → W3.heap[b]? = J.W0.heap[b]? := fun b hb => (hk3 b (.inr hb)).trans (zk2 b hb)
  refine (beside_run1 (X := shopJ J Ans) sok pwg ntw (st_add (cs := cs) (by omega) hf3 wg3) gs3 t3 sl3 hI3 h03).bind fun m' t4 ⟨gs4, W4, sl4, g4, d4, hm, hI4, h04, hz4, hA4, hF4⟩ => ?_
  subst hm
  obtain ⟨rfl, ⟨act4, hf4, hg4⟩, wg4⟩ := hF4 W4.drawn
  subst hg4
  replace wg4 : WgAt 74 J.Wg W4 ((k + 1 : Nat) * KK) 0 := wg4
  have cht4 := cht3.keep (hA4.block _ ntw)
  have chb4 := chb3.keep (hA4.block _ nbw)
  have zsh : ∀ b, J.Z b → b ≠ J.Wg := fun b hb e => hI1.core.apart.zsh b hb (e ▸ pwg)
  have zk4 : ∀ b, J.Z b → W4.heap[b]? = J.W0.heap[b]? := fun b hb => (hA4.block b (zsh b hb)).trans (zk3 b hb)
  have hC4 : OwnC J C W4 := hC3.keep fun b hb => hA4.block b (by rcases hb with rfl | rfl <;> show _ ≠ J.Wg <;> omega)
  refine (walk (sl := sl4) sok hI4 h04 (Mine C) hO3 (st_toGo (Z := J.Z) hC4 hf4)).bind fun m' t5 ⟨gs5, W5, sl5, O5, g5, hm, hI5, h05, hz5, hk5, ⟨⟨act5, hf5, hg5⟩, hO5, hC5⟩, hb5⟩ => ?_
  subst hm hg5
  have cht5 := cht4.keep (hk5 _ (.inl pct))
  have chb5 := chb4.keep (hk5 _ (.inl pcb))
  have wg5 := wgAt_keep wg4 (hk5 _ (.inl pwg))
  have zk5 : ∀ b, J.Z b → W5.heap[b]? = J.W0.heap[b]? := fun b hb => (hk5 b (.inr hb)).trans (zk4 b hb)
  have hF : WF J C W5 := ⟨⟨hC5.wg, hC5.fn, fun b o v hz hv => cell_stands hv (zk5 b hz), lo1⟩, wgAt_live wg5⟩
  refine (born (X := shopJ J Ans) (sl := sl5) sok hI5 h05 rfl ⟨pct, pwg⟩ cht5 hO5 (fun e => st_go hf5 (W5.at e)) ⟨30, newborn ok hF⟩).bind fun m' t6 ⟨gs6, W6, sl6, hm, hI6, h06, hz6, e6, hW6⟩ => ?_
  subst hm hW6
  refine (walk (sl := sl6) sok hI6 h06 (fun _ => False) (fun _ h => h.elim) (st_back (Z := J.Z) (J := J) hf5.defers hf1 (by omega))).mono fun m' t7 ⟨gs7, W7, sl7, O7, g7, hm, hI7, h07, hz7, hk7, hg7, hb7⟩ => ?_
  have hz : gs7.size = s0 + (k + 1) := by have := h.size; omega
  refine ⟨gs7, W7, sl7, O7, hm, ⟨?_, ⟨g7, h07, hg7⟩, hz, wgAt_keep wg5 (hk7 _ (.inl pwg)), cht5.keep (hk7 _ (.inl pct)), chb5.keep (hk7 _ (.inl pcb)), fun b hb => (hk7 b (.inr hb)).trans (zk5 b hb), ?_, ?_⟩⟩
  rotate_left
  · have s3 := hb3.size; have s4 := hA4.size; have s5 := hb5.size; have s7 : W5.heap.size ≤ W7.heap.size := hb7.size
    omega
  · exact h.sm.trans (hb1.sm.trans (hs2.trans (hb3.sm.trans ((Sm.aside hA4).trans (hb5.sm.trans ((Sm.at W5 e6).trans hb7.sm))))))
  have eK : (fun j => s0 ≤ j ∧ j < gs7.size) = fun j => (s0 ≤ j ∧ j < gs.size) ∨ j = gs5.size := by
    funext j
    have := h.size
    apply propext
    constructor <;> intro x <;> omega
  rw [eK]
  exact hI7
theorem spawn_all (ok : JobOk J) (hH : HowOk J Ans) (pl : Places (shopJ J Ans) Sh) (hlim : workers ≤ 1000) (hs0 : 0 < s0) : ∀ (n k : Nat), workers - k = n → k ≤ workers → ∀ (gs : Array Goroutine) (W : World) (t : Trace) (O : Nat → Nat → Prop) (sl : Option (Nat × Nat)), Spawn J Ans Shun Sh s0 workers k cs gs W t O →
    Comes Tryz.prog (crowd gs W sl) t fun m' t' => ∃ gs' W' sl' O', m' = crowd gs' W' sl' ∧ Spawn J Ans Shun Sh s0 workers workers cs gs' W' t' O'
  | 0, k, hn, hk, gs, W, t, O, sl, h => by
    obtain rfl : k = workers := by omega
    exact .done ⟨gs, W, sl, O, rfl, h⟩
  | n + 1, k, hn, hk, gs, W, t, O, sl, h => by
    refine (spawn1 (sl := sl) ok hH pl (by omega) hlim hs0 h).bind fun m' t' ⟨gs', W', sl', O', hm, h'⟩ => ?_
    subst hm
    exact spawn_all ok hH pl hlim hs0 n (k + 1) (by omega) (by omega) gs' W' t' O' sl' h'
end
end Go.Proofs.YtgcbcagaibecbaaGreatDoor.Pool

namespace Go.Proofs.YtgcbcagaibecbaaGreatDoor.Pool
set_option maxRecDepth 20000
open Go Go.Conc Gap Ev Go.RowKit Go.Conc.Lib
open Go.ConcN (upd upd_same upd_ne WgLive)
open Go.ConcR (Payload WgAt KK wgBlock)
local instance : Gap.Leaps := noLeaps

def ShJ (J : Job) (b : Nat) : Prop := b = J.ct ∨ b = J.cb ∨ b = J.Wg
structure Ready (J : Job) (Z O : Nat → Prop) (w W : World) : Prop where
  ok : JobOk J
  nb : J.ct ≠ J.cb ∧ J.ct ≠ J.Wg ∧ J.cb ≠ J.Wg
  sub : ∀ b, Z b → J.Z b
  own : ∀ b, O b → J.Z b ∧ J.W0.heap[b]? = w.heap[b]?
  news : ∀ b, J.Z b → Z b ∨ O b ∨ w.heap.size ≤ b
  objs : ∀ b, J.Z b → ¬ Z b → ∃ o, J.W0.heap[b]? = some o ∧ okObj o = true
  zz : ∀ b, Z b → J.W0.heap[b]? = W.heap[b]?
  size : W.heap.size ≤ J.W0.heap.size
  sm : Sm W J.W0
section
variable {Z O : Nat → Prop} {Shun : Loc → Prop} {gs : Array Goroutine} {w W : World} {t : Trace} {sl : Option (Nat × Nat)} {many workers : Nat} {fh : FuncId} {c0 : Value} {cs0 : List Value} {cs : List Frame}
theorem blk_cell0 {b : Nat} {ty : TypeId} {v : Value} (h : Blk W b ty [v]) : W.cell? ⟨b, 0, none⟩ = some v := by
  have h : W.heap[b]? = some (.cells #[v] ty (0, 0)) := h
  simp [World.cell?, h]
theorem leap_start (hC : Calm Tryz.prog Z Shun gs W t O) (h0 : gs[0]? = some (G (Frame.enter Tryz.prog iA #[.int .i64 many, .int .i64 workers, .func (.func fh) #[] (c0 :: cs0).toArray] .normal) cs)) (hl : Lag O Z w W) :
    Comes Tryz.prog (crowd gs W sl) t fun m' t' => ∃ J gs' W' sl', m' = crowd gs' W' sl' ∧ J.many = many ∧ J.fh = fh ∧ J.c0 = c0 ∧ J.cs = cs0 ∧ Ready J Z O w W ∧ gs'.size = gs.size ∧ ∀ Ans, Spawn J Ans Shun (ShJ J) gs.size workers 0 cs gs' W' t' (fun _ _ => False) := by
  have e0 : (fun b => (0 : Nat) = 0 ∧ O b) = O := by funext b; simp
  refine (beside (X := X0 Tryz.prog Z) x0_ok (above (p := fun b => O b ∨ w.heap.size ≤ b) (q := O) (n := W.heap.size) (w0 := W) (fun b hb => .inr (Nat.le_trans hl.size hb)) (all_start (many := many) (workers := workers) (how := .func (.func fh) #[] (c0 :: cs0).toArray) (cs := cs) hl rfl) ⟨fun _ h => .inl h, fun _ h => h, Nat.le_refl _, .refl W⟩) gs t _ sl e0 hC.idle h0).mono fun m' t1 ⟨gs1, W1, sl1, O1, a1, hm, hI1, h01, hz1, hO1, hk1, hS⟩ => ?_
  obtain ⟨⟨⟨ct, cb, Wg, bt, bh, bb, hg, hw, h6⟩, hold, hobj⟩, hab⟩ := hS W1 (.refl W1)
  have e1 : O1 = fun g b => g = 0 ∧ O1 0 b := by
    funext g b
    by_cases hg0 : g = 0
    · subst hg0; simp
    · rw [hO1 g hg0]; simp [hg0]
  rw [e1] at hI1
  have hcalm : Calm Tryz.prog Z Shun gs1 W1 t1 (O1 0) := calm_of_idle rfl rfl hI1
  generalize O1 0 = O2 at *
  have hnd := hw.nodup
  simp only [List.nodup_cons, List.mem_cons, List.not_mem_nil, or_false, not_or] at hnd
  obtain ⟨⟨n1, n2, n3, n4, n5⟩, ⟨n6, n7, n8, n9⟩, ⟨n10, n11, n12⟩, ⟨n13, n14⟩, n15, _⟩ := hnd
  have own6 := fun b hb => (h6 b hb).1
  have big6 := fun b hb => (h6 b hb).2
  let J : Job := { Z := fun b => Z b ∨ (O2 b ∧ ¬ (b = ct ∨ b = cb ∨ b = Wg)), ct, cb, Wg, bt, bh, bb, many, fh, c0, cs := cs0, W0 := W1 }
  have hshare : ∀ Ans, Idle (shopJ J Ans) 0 Shun (ShJ J) (fun _ => False) gs1 W1 t1 (fun _ _ => False) := fun Ans => calm_share (X := shopJ J Ans) (Z := Z) (Sh := ShJ J) (fun b => Iff.rfl) (fun b hb => by
    rcases hb with hb | hb | hb
    · exact hb ▸ own6 ct (by simp)
    · exact hb ▸ own6 cb (by simp)
    · exact hb ▸ own6 Wg (by simp)) hcalm
  have hlow := (hshare fun _ _ _ _ => True).core.apart.loZ
  have ltO : ∀ b, O b → b < w.heap.size := fun b hb => let ⟨o, e, _⟩ := hl.own b hb; (Array.getElem?_eq_some_iff.1 e).1
  refine ⟨J, gs1, W1, sl1, hm, rfl, rfl, rfl, rfl, ⟨⟨?_, ?_, ?_, hlow, ?_, ?_, ?_⟩, ⟨n1, n2, n6⟩, fun b hb => .inl hb, fun b hb => ⟨.inr ⟨hab.dn b hb, ?_⟩, hold b hb⟩, fun b hb => ?_, fun b hb hz => ?_, fun b hb => hk1 b (.inr hb), hab.size, hab.sm⟩, hz1, fun Ans => ⟨?_, ⟨a1, h01, hg⟩, by omega, ?_, ⟨_, _, hw.hct⟩, ⟨_, _, hw.hcb⟩, fun _ _ => rfl, Nat.le_refl _, .refl W1⟩⟩
  · exact .inr ⟨own6 bt (by simp), fun hb => hb.elim (Ne.symm n3) fun hb => hb.elim (Ne.symm n7) (Ne.symm n10)⟩
  · exact .inr ⟨own6 bh (by simp), fun hb => hb.elim (Ne.symm n4) fun hb => hb.elim (Ne.symm n8) (Ne.symm n11)⟩
  · exact .inr ⟨own6 bb (by simp), fun hb => hb.elim (Ne.symm n5) fun hb => hb.elim (Ne.symm n9) (Ne.symm n12)⟩
  · exact blk_cell0 hw.hbt
  · exact blk_cell0 hw.hbh
  · exact blk_cell0 hw.hbb
  · have := ltO b hb
    have c1 := big6 ct (by simp)
    have c2 := big6 cb (by simp)
    have c3 := big6 Wg (by simp)
    omega
  · rcases hb with hb | ⟨hb, _⟩
    · exact .inl hb
    · exact .inr (hab.up b hb)
  · exact hobj b (hb.resolve_left hz).1
  · have eK : (fun j => gs.size ≤ j ∧ j < gs1.size) = fun _ => False := by
      funext j
      apply propext
      constructor
      · intro x; omega
      · exact fun x => x.elim
    rw [eK]
    exact hshare Ans
  · show W1.heap[Wg]? = _
    rw [hw.hwg]
    simp [wgBlock]
end
end Go.Proofs.YtgcbcagaibecbaaGreatDoor.Pool

namespace Go.Proofs.YtgcbcagaibecbaaGreatDoor.Pool
set_option maxRecDepth 20000
open Go Go.Conc Gap Ev Go.RowKit Go.Conc.Lib
open Go.ConcN (upd upd_same upd_ne WgLive)
open Go.ConcR (Payload WgAt KK)
local instance : Gap.Leaps := noLeaps

def OneV := { v : Value // isOne v = true }
def encO (x : OneV) : List Value := [x.1]
theorem codO : Codec 1 encO := ⟨fun _ => rfl, fun x => by simp [encO, x.2], by decide⟩
def nilS : OneV := ⟨.slice none 0 0, rfl⟩
def nilE : OneV := ⟨.nilIface, rfl⟩
def outE (b n : Nat) (xs : List OneV) : Ent := ownL 32 1 encO (.slice (some ⟨b, 0, none⟩) n n) xs
def errE (b n : Nat) (xs : List OneV) : Ent := ownL 26 1 encO (.slice (some ⟨b, 0, none⟩) n n) xs
def sgP (many bt bb Wg bo be : Nat) : Slots := [(0, .int .i64 many), (6, .slice (some ⟨bo, 0, none⟩) many many), (7, .slice (some ⟨be, 0, none⟩) many many), (8, .pointer (some ⟨bt, 0, none⟩)), (9, .pointer (some ⟨bb, 0, none⟩)), (10, .pointer (some ⟨Wg, 0, none⟩))]
set_option maxHeartbeats 4000000 in
theorem regionA7 {many bt bb Wg : Nat} (hm : many ≤ 100000) (w1 : World) : DrawC Tryz.prog tab 62 (regs fnA 7) (CutE fun σ w' => ∃ bo be, σ = sgP many bt bb Wg bo be ∧ St { w1 with drawn := w1.drawn + 1 } No w' [outE bo many (List.replicate many nilS), errE be many (List.replicate many nilE)]) [(0, .int .i64 many), (8, .pointer (some ⟨bt, 0, none⟩)), (9, .pointer (some ⟨bb, 0, none⟩)), (10, .pointer (some ⟨Wg, 0, none⟩))] w1 := by
  have hx : ∀ v : OneV, (madeCells #[v.1] (many * 1)).toList = (List.replicate many v).flatMap encO := fun v => by
    rw [made_rep, Nat.mul_one]
    induction many with
    | zero => rfl
    | succ n ih => rw [List.replicate_succ, List.replicate_succ, List.flatMap_cons, ← ih (by omega)]; rfl
  refine drawT tabOk mixed [] (No) (.take 0 (.take 2 (.alt 1 (.take 4 (.alt 3 (.take 5 .fin) .fin)) (.alt 3 (.alt 1 (.take 4 (.take 5 .fin)) .fin) .fin)))) (by kernel_rfl) ?_
  rintro w5 rfl
  have hS := St.start { w1 with drawn := w1.drawn + 1 } No
  repeat' ((conv => whnf); first | refine And.intro ?_ ?_ | refine hS.mkSlice (xs := List.replicate many nilS) (enc := encO) (sz := 1) (bytes := 24) (e := 32) (z := .slice none 0 0) Tryz.underlying24 (by kernel_rfl) (by kernel_rfl) (by omega) (by omega) (by unfold maxLen; omega) (by simp) (hx nilS) (fun b w' hb hS => KeepC.mk hS.ext ?_) | refine hS.mkSlice (xs := List.replicate many nilE) (enc := encO) (sz := 1) (bytes := 16) (e := 26) (z := .nilIface) Tryz.underlying43 (by kernel_rfl) (by kernel_rfl) (by omega) (by omega) (by unfold maxLen; omega) (by simp) (hx nilE) (fun b w' hb hS => KeepC.mk hS.ext ?_))
  all_goals first
  | exact CutE.mk ⟨sgP many bt bb Wg _ _, ⟨rfl, rfl, rfl, rfl, rfl, rfl, trivial⟩, _, _, rfl, hS.sel [0, 1] (by decide)⟩
  | exact CutE.mk ⟨sgP many bt bb Wg _ _, ⟨rfl, rfl, rfl, rfl, rfl, rfl, trivial⟩, _, _, rfl, hS.sel [1, 0] (by decide)⟩
  | trace_state
end Go.Proofs.YtgcbcagaibecbaaGreatDoor.Pool

namespace Go.Proofs.YtgcbcagaibecbaaGreatDoor.Pool
set_option maxRecDepth 20000
open Go Go.Conc Gap Ev Go.RowKit Go.Conc.Lib
open Go.ConcN (upd upd_same upd_ne WgLive sumTo)
open Go.ConcR (Payload WgAt KK)
local instance : Gap.Leaps := noLeaps

def Objs (O : Nat → Prop) (W : World) : Prop := ∀ b, O b → ∃ o, W.heap[b]? = some o ∧ okObj o = true
def Got (Ans : Nat → Value → Value → Ent → Prop) (bo be : Nat) (O : Nat → Prop) (w : World) (xs ys : List OneV) (i : Nat) : Prop :=
  ∃ x y e, xs[i]? = some x ∧ ys[i]? = some y ∧ (∃ a n c, x.1 = .slice a n c) ∧ (y.1 = .nilIface ∨ ∃ t u, y.1 = .iface t u) ∧ Ans i x.1 y.1 e ∧ e.Local ∧ e.holds w ∧ ∀ b ∈ e.foot, O b ∧ b ≠ bo ∧ b ≠ be
structure RowsC (J : Job) (Ans : Nat → Value → Value → Ent → Prop) (next : Nat) (done : Nat → Bool) (bo be : Nat) (O : Nat → Prop) (w : World) : Prop where
  le : next ≤ J.many
  dlt : ∀ i, done i = true → i < next
  oo : O bo
  oe : O be
  ne : bo ≠ be
  seen : Seen J w
  rows : ∃ xs ys : List OneV, xs.length = J.many ∧ ys.length = J.many ∧ (outE bo J.many xs).holds w ∧ (errE be J.many ys).holds w ∧ ∀ i, done i = true → Got Ans bo be O w xs ys i
section
variable {J : Job} {Ans : Nat → Value → Value → Ent → Prop} {next ready : Nat} {done : Nat → Bool} {bo be : Nat} {O O' Z : Nat → Prop} {w w' W W1 : World} {cs : List Frame} {xs ys : List OneV} {i : Nat}
theorem outE_local : (outE bo i xs).Local := ownL_local
theorem errE_local : (errE bo i xs).Local := ownL_local
theorem Got.keep (h : Got Ans bo be O w xs ys i) (ho : ∀ b, O b → O' b) (k : ∀ b, O b → b ≠ bo → b ≠ be → w'.heap[b]? = w.heap[b]?) : Got Ans bo be O' w' xs ys i := by
  obtain ⟨x, y, e, h1, h2, h3, h4, h5, h6, h7, h8⟩ := h
  exact ⟨x, y, e, h1, h2, h3, h4, h5, h6, h6 w w' (fun b hb => k b (h8 b hb).1 (h8 b hb).2.1 (h8 b hb).2.2) h7, fun b hb => ⟨ho b (h8 b hb).1, (h8 b hb).2⟩⟩
theorem RowsC.keep (h : RowsC J Ans next done bo be O w) (ho : ∀ b, O b → O' b) (k : ∀ b, O b → w'.heap[b]? = w.heap[b]?) (hs : Seen J w') : RowsC J Ans next done bo be O' w' := by
  obtain ⟨xs, ys, h1, h2, h3, h4, h5⟩ := h.rows
  refine ⟨h.le, h.dlt, ho _ h.oo, ho _ h.oe, h.ne, hs, xs, ys, h1, h2, outE_local _ _ (fun b hb => k b ?_) h3, errE_local _ _ (fun b hb => k b ?_) h4, fun i hi => (h5 i hi).keep ho fun b hb _ _ => k b hb⟩
  · obtain rfl : b = bo := by simpa [outE, ownL, own, Value.ownBlock] using hb
    exact h.oo
  · obtain rfl : b = be := by simpa [errE, ownL, own, Value.ownBlock] using hb
    exact h.oe
theorem RowsC.lag (h : RowsC J Ans next done bo be O w) (hl : Lag O Z w W) : RowsC J Ans next done bo be O W :=
  h.keep (fun _ h => h) (fun b hb => let ⟨o, e1, e2, _⟩ := hl.own b hb; e2.trans e1.symm) fun b o v hb hv => (hl.cell (h.seen b o v hb hv)).1
theorem RowsC.rely (h : RowsC J Ans next done bo be O W) (r : Rely O J.Z W W1) : RowsC J Ans next done bo be O W1 :=
  h.keep (fun _ h => h) (fun b hb => r.keep b (.inl hb)) fun b o v hb hv => cell_stands (h.seen b o v hb hv) (r.keep b (.inr hb))
theorem RowsC.view (h : RowsC J Ans next done bo be O W) : RowsC J Ans next done bo be O (Pool.view O J.Z W) :=
  h.keep (fun _ h => h) (fun b hb => view_own hb) fun b o v hb hv => view_cell (.inr hb) (h.seen b o v hb hv)
theorem RowsC.wid (h : RowsC J Ans next done bo be O w) (ho : ∀ b, O b → O' b) : RowsC J Ans next done bo be O' w := h.keep ho (fun _ _ => rfl) h.seen
theorem objs_lag (hl : Lag O Z w W) (r : Rely O Z W W1) : Objs O W1 := fun b hb => let ⟨o, _, e2, e3⟩ := hl.own b hb; ⟨o, (r.keep b (.inl hb)).trans e2, e3⟩

noncomputable def tailS : Code := .seq (.region 21 (regs fnA 21) false) (.seq (.region 22 (regs fnA 22) false) (.seq (.region 23 (regs fnA 23) false) .ret))
noncomputable def blk4 : Code := (blockOf (fnA.body.getD .skip) 4).getD .skip
noncomputable def cod11 : Code := .seq (.region 11 (regs fnA 11) false) (.cond (.tmp 33) (.region 12 (regs fnA 12) false) .skip)
noncomputable def cod15 : Code := .seq (.seq (.region 13 (regs fnA 13) false) (.region 14 (regs fnA 14) false)) (.region 15 (regs fnA 15) false)
theorem tailA_eq : tailA = .seq (.region 7 (regs fnA 7) true) (.seq (.seq (.region 8 (regs fnA 8) false) (.block 2 (.loop (round fnA 2)))) tailS) := rfl
theorem round2_eq : round fnA 2 = .seq (.seq (.region 9 (regs fnA 9) false) (.cond (.tmp 29) .skip (.exit 2))) (.block 3 (.seq (.region 10 (regs fnA 10) false) (.seq cod11 (.seq cod15 (.seq (.region 16 (regs fnA 16) false) (.block 4 blk4)))))) := rfl
def sgL (J : Job) (next ready bo be : Nat) : Slots := (11, .int .i64 next) :: (12, .int .i64 ready) :: sgP J.many J.bt J.bb J.Wg bo be
def chv (J : Job) (next : Nat) : Value := if next < J.many then .chan (some J.ct) else .chan none
def sgM (J : Job) (next ready bo be : Nat) : Slots := (34, chv J next) :: (35, .int .i64 next) :: (36, .chan (some J.cb)) :: sgL J next ready bo be
noncomputable def headL (a : Act) (cs : List Frame) : Goroutine := G ((base iA).at a [.code (round fnA 2), .inLoop (round fnA 2), .inBlock 2, .code tailS]) cs
noncomputable def atSel (a : Act) (ix : List Nat) (cs : List Frame) : Goroutine := G ((base iA).at a [.inRegion (regs fnA 16) ix, .code (.block 4 blk4), .inBlock 3, .inLoop (round fnA 2), .inBlock 2, .code tailS]) cs
noncomputable def atClose (a : Act) (cs : List Frame) : Goroutine := G ((base iA).at a [.inRegion (regs fnA 21) [1], .code (.seq (.region 22 (regs fnA 22) false) (.seq (.region 23 (regs fnA 23) false) .ret))]) cs
def sgC (J : Job) (bo be : Nat) : Slots := [(58, .chan (some J.ct)), (6, .slice (some ⟨bo, 0, none⟩) J.many J.many), (7, .slice (some ⟨be, 0, none⟩) J.many J.many), (10, .pointer (some ⟨J.Wg, 0, none⟩))]
def SEL0 (J : Job) (Ans : Nat → Value → Value → Ent → Prop) (cs : List Frame) (next : Nat) (done : Nat → Bool) (O : Nat → Prop) (g : Goroutine) (W : World) : Prop :=
  ∃ bo be ready, RowsC J Ans next done bo be O W ∧ Objs O W ∧ ready + left (shopJ J Ans) done = J.many ∧
    ((ready < J.many ∧ ∃ a, Fits 62 (sgM J next ready bo be) a ∧ g = atSel a [0, 1, 2, 3] cs) ∨ (ready = J.many ∧ ∃ a, Fits 62 (sgC J bo be) a ∧ g = atClose a cs))
theorem sel_head (ok : JobOk J) (hm : J.many ≤ 100000) (hr : ready + left (shopJ J Ans) done = J.many) (hR : RowsC J Ans next done bo be O w) (hl : Lag O J.Z w W) {a : Act} (hf : Fits 62 (sgL J next ready bo be) a) :
    Way0 Tryz.prog true J.Z (SEL0 J Ans cs next done) O (headL a cs) W := by
  have hbt := hR.seen _ _ _ ok.zt ok.todo
  have hbb := hR.seen _ _ _ ok.zb ok.back
  unfold headL
  rw [round2_eq]
  refine .ctl rfl (fun _ => stepG_seq) ?_
  by_cases hlt : ready < J.many
  · refine way_code (Q := fun e σ w' => e = .normal ∧ w' = w ∧ Sub (sgL J next ready bo be) σ) tabOk (by decide) hf hl ?_ ?_
    · (conv => whnf)
      have e : decide ((ready : Int) < (J.many : Int)) = true := decide_eq_true (by omega)
      rw [e]
      (conv => whnf)
      exact ⟨rfl, rfl, rfl, rfl, rfl, rfl, rfl, rfl, rfl, rfl, trivial⟩
    rintro e σ1 a1 w1 O1 W1 ho1 hl1 hf1 ⟨rfl, rfl, hs1⟩ _
    replace hf1 := hf1.weaken hs1.look_
    show Way0 _ _ _ _ _ _ _
    refine .ctl rfl (fun _ => stepG_block) ?_
    refine .ctl rfl (fun _ => stepG_seq) ?_
    refine way_code (Q := fun e σ w' => e = .normal ∧ w' = w1 ∧ Sub ((13, .chan (some J.ct)) :: sgL J next ready bo be) σ) tabOk (by decide) hf1 hl1 ?_ ?_
    · (conv => whnf)
      refine ldc hbt ?_
      (conv => whnf)
      exact ⟨rfl, rfl, rfl, rfl, rfl, rfl, rfl, rfl, rfl, rfl, rfl, trivial⟩
    rintro e σ2 a2 w2 O2 W2 ho2 hl2 hf2 ⟨rfl, rfl, hs2⟩ _
    replace hf2 := hf2.weaken hs2.look_
    show Way0 _ _ _ _ _ _ _
    refine .ctl rfl (fun _ => stepG_seq) ?_
    refine way_code (Q := fun e σ w' => e = .normal ∧ w' = w2 ∧ Sub ((13, chv J next) :: sgL J next ready bo be) σ) tabOk (by decide) hf2 hl2 ?_ ?_
    · have hle := hR.le
      unfold chv cod11
      by_cases hn : next < J.many
      · (conv => whnf)
        have e : ((next : Int) == (J.many : Int)) = false := by simp; omega
        simp only [if_pos hn, e]
        (conv => whnf)
        exact ⟨rfl, rfl, rfl, rfl, rfl, rfl, rfl, rfl, rfl, rfl, rfl, trivial⟩
      · (conv => whnf)
        have e : ((next : Int) == (J.many : Int)) = true := by simp; omega
        simp only [if_neg hn, e]
        (conv => whnf)
        exact ⟨rfl, rfl, rfl, rfl, rfl, rfl, rfl, rfl, rfl, rfl, rfl, trivial⟩
    rintro e σ3 a3 w3 O3 W3 ho3 hl3 hf3 ⟨rfl, rfl, hs3⟩ _
    replace hf3 := hf3.weaken hs3.look_
    show Way0 _ _ _ _ _ _ _
    refine .ctl rfl (fun _ => stepG_seq) ?_
    refine way_code (Q := fun e σ w' => e = .normal ∧ w' = w3 ∧ Sub (sgM J next ready bo be) σ) tabOk (by decide) hf3 hl3 ?_ ?_
    · unfold cod15
      (conv => whnf)
      refine ldc hbb ?_
      (conv => whnf)
      exact ⟨rfl, rfl, rfl, rfl, rfl, rfl, rfl, rfl, rfl, rfl, rfl, rfl, rfl, trivial⟩
    rintro e σ4 a4 w4 O4 W4 ho4 hl4 hf4 ⟨rfl, rfl, hs4⟩ _
    replace hf4 := hf4.weaken hs4.look_
    show Way0 _ _ _ _ _ _ _
    refine .ctl rfl (fun _ => stepG_seq) ?_
    refine .ctl rfl (fun _ => stepG_region) ?_
    have ho : ∀ b, O b → O4 b := fun b hb => ho4 b (ho3 b (ho2 b (ho1 b hb)))
    exact .stop fun W5 h5 => ⟨bo, be, ready, ((hR.wid ho).lag hl4).rely h5, objs_lag hl4 h5, hr, .inl ⟨hlt, a4, hf4, rfl⟩⟩
  · have hle : left (shopJ J Ans) done + ready = J.many := by omega
    refine way_code (Q := fun e σ w' => e = .exit 2 ∧ w' = w ∧ Sub (sgL J next ready bo be) σ) tabOk (by decide) hf hl ?_ ?_
    · (conv => whnf)
      have e : decide ((ready : Int) < (J.many : Int)) = false := decide_eq_false (by omega)
      rw [e]
      (conv => whnf)
      exact ⟨rfl, rfl, rfl, rfl, rfl, rfl, rfl, rfl, rfl, rfl, trivial⟩
    rintro e σ1 a1 w1 O1 W1 ho1 hl1 hf1 ⟨rfl, rfl, hs1⟩ _
    replace hf1 := hf1.weaken hs1.look_
    refine ⟨[.code tailS], rfl, ?_⟩
    unfold tailS
    refine .ctl rfl (fun _ => stepG_seq) ?_
    refine .ctl rfl (fun _ => stepG_region) ?_
    refine way_ops (Q := fun σ w' => w' = w1 ∧ Sub (sgC J bo be) σ) (tail := [1]) tabOk 0 1 rfl (by decide) hf1 hl1 ?_ ?_
    · (conv => whnf)
      refine ldc hbt ?_
      (conv => whnf)
      exact ⟨rfl, rfl, rfl, rfl, rfl, trivial⟩
    rintro σ2 a2 w2 O2 W2 ho2 hl2 hf2 ⟨rfl, hs2⟩
    replace hf2 := hf2.weaken hs2.look_
    have ho : ∀ b, O b → O2 b := fun b hb => ho2 b (ho1 b hb)
    exact .stop fun W5 h5 => ⟨bo, be, ready, ((hR.wid ho).lag hl2).rely h5, objs_lag hl2 h5, hr, .inr ⟨by omega, a2, hf2, rfl⟩⟩
end
end Go.Proofs.YtgcbcagaibecbaaGreatDoor.Pool

namespace Go.Proofs.YtgcbcagaibecbaaGreatDoor.Pool
set_option maxRecDepth 20000
open Go Go.Conc Gap Ev Go.RowKit Go.Conc.Lib
open Go.ConcN (upd upd_same upd_ne WgLive sumTo)
open Go.ConcR (Payload WgAt KK)
local instance : Gap.Leaps := noLeaps

section
variable {J : Job} {Ans : Nat → Value → Value → Ent → Prop} {next ready : Nat} {done : Nat → Bool} {bo be : Nat} {O O' T Z : Nat → Prop} {w w' W W1 : World} {cs : List Frame} {xs ys : List OneV} {i : Nat} {a : Act}
theorem comm_sel (k : Int) (v : Value) (b : Bool) : commResult (selc (shopJ J Ans) (.int .i64 0) next) .select k v b = .tuple #[goInt k, .bool b, if (1 : Int) = k then v else zrv] := by
  unfold selc
  split <;> simp [commResult, rcase, scase, shopJ]
theorem fin_sel (k : Int) (v : Value) (b : Bool) : (atSel a [0, 1, 2, 3] cs).finishComm Tryz.prog (selc (shopJ J Ans) (.int .i64 0) next) .select k v b = atSel (a.put (some 37) (.tuple #[goInt k, .bool b, if (1 : Int) = k then v else zrv])) [1, 2, 3] cs := by
  unfold Goroutine.finishComm
  rw [comm_sel]
  simp only [atSel, G, Frame.finish_at]
  rfl
theorem step_sel (hf : Fits 62 (sgM J next ready bo be) a) (w : World) : stepG Tryz.prog true (atSel a [0, 1, 2, 3] cs) w = .comm (atSel a [0, 1, 2, 3] cs) (selc (shopJ J Ans) (.int .i64 0) next) true .select w #[] := by
  have e34 := ro_eval hf (x := .tmp 34) rfl
  have e35 := ro_eval hf (x := .tmp 35) rfl
  have e36 := ro_eval hf (x := .tmp 36) rfl
  have z3 := Tryz.zeroValue3
  have zd : ∀ w, (zeroValue 77).run Tryz.prog w = .ok zrv w := zero_run (by kernel_rfl)
  refine comm_step (rest := [1, 2, 3]) rfl rfl (by decide) (fun w => ?_) (fun w => ?_) w
  · show (execOp a.eval ⟨some 37, .select #[⟨.tmp 34, some (.tmp 35), 3⟩, ⟨.tmp 36, none, 77⟩] true, _, _, _, _⟩).run Tryz.prog w = _
    unfold execOp selc chv at *
    by_cases hn : next < J.many
    · simp [e34, e35, e36, z3, zd, hn, shopJ, rcase, scase]
    · simp [e34, e35, e36, z3, zd, hn, shopJ, rcase]
  · show (execOp a.eval ⟨some 37, .select #[⟨.tmp 34, some (.tmp 35), 3⟩, ⟨.tmp 36, none, 77⟩] true, _, _, _, _⟩).events Tryz.prog w #[] = _
    unfold execOp
    simp [e34, e35, e36, z3, zd, go_sem]
theorem sel_sent (ok : JobOk J) (hm : J.many ≤ 100000) (hlt : next < J.many) (hr : ready + left (shopJ J Ans) done = J.many) (hR : RowsC J Ans next done bo be O W) (ho : Objs O W) (hf : Fits 62 (sgM J next ready bo be) a) :
    Way0 Tryz.prog true J.Z (SEL0 J Ans cs (next + 1) done) O ((atSel a [0, 1, 2, 3] cs).finishComm Tryz.prog (selc (shopJ J Ans) (.int .i64 0) next) .select 0 undef false) W := by
  rw [fin_sel]
  have hl : Lag O J.Z (view O J.Z W) W := view_lag ho
  replace hR := hR.view
  generalize view O J.Z W = w at hl hR
  have hf1 : Fits 62 ((37, .tuple #[.int .i64 0, .bool false, zrv]) :: sgL J next ready bo be) (a.put (some 37) (.tuple #[goInt 0, .bool false, if (1 : Int) = 0 then undef else zrv])) :=
    (hf.put (d := 37) (by decide) _).weaken (Sub.look_ ⟨rfl, rfl, rfl, rfl, rfl, rfl, rfl, rfl, rfl, trivial⟩)
  unfold atSel
  refine way_ops (Q := fun σ w' => w' = w ∧ Sub ((39, .bool true) :: sgL J next ready bo be) σ) (tail := []) tabOk 1 3 rfl (by decide) hf1 hl ?_ ?_
  · (conv => whnf)
    exact ⟨rfl, rfl, rfl, rfl, rfl, rfl, rfl, rfl, rfl, rfl, trivial⟩
  rintro σ2 a2 w2 O2 W2 ho2 hl2 hf2 ⟨rfl, hs2⟩
  replace hf2 := hf2.weaken hs2.look_
  refine .ctl rfl (fun _ => stepG_region_end) ?_
  refine way_code (Q := fun e σ w' => e = .normal ∧ w' = w2 ∧ Sub (sgL J (next + 1) ready bo be) σ) tabOk (by decide) hf2 hl2 ?_ ?_
  · (conv => whnf)
    refine RngC.mk (by omega) (by omega) ?_
    (conv => whnf)
    exact ⟨rfl, rfl, rfl, rfl, rfl, rfl, rfl, rfl, rfl, rfl, trivial⟩
  rintro e σ1 a1 w1 O1 W1 ho1 hl1 hf1 ⟨rfl, rfl, hs1⟩ _
  replace hf1 := hf1.weaken hs1.look_
  show Way0 _ _ _ _ _ _ _
  refine .ctl rfl (fun _ => stepG_inBlock) ?_
  refine .ctl rfl (fun _ => stepG_inLoop) ?_
  refine sel_head ok hm hr ⟨by omega, fun i hi => by have := hR.dlt i hi; omega, ho1 _ (ho2 _ hR.oo), ho1 _ (ho2 _ hR.oe), hR.ne, hR.seen, (hR.wid fun b hb => ho1 b (ho2 b hb)).rows⟩ hl1 hf1
end
end Go.Proofs.YtgcbcagaibecbaaGreatDoor.Pool

namespace Go.Proofs.YtgcbcagaibecbaaGreatDoor.Pool
set_option maxRecDepth 20000
open Go Go.Conc Gap Ev Go.RowKit Go.Conc.Lib
open Go.ConcN (upd upd_same upd_ne WgLive sumTo)
open Go.ConcR (Payload WgAt KK)
local instance : Gap.Leaps := noLeaps

def Two (bo be : Nat) : Nat → Prop := fun b => b = bo ∨ b = be
section
variable {J : Job} {next ready bo be d i : Nat} {sa : Option Addr} {sn sc : Nat} {er : OneV} {xs ys : List OneV} {w0 w1 : World}
def sg19 (J : Job) (next ready bo be d : Nat) : Slots := (14, .pointer (some ⟨d, 0, none⟩)) :: sgL J next ready bo be
set_option maxHeartbeats 4000000 in
theorem regionA19 (hi : i < J.many) (hx : xs.length = J.many) (hy : ys.length = J.many) (hd : ¬ Two bo be d) (hS : St w0 (Two bo be) w1 [outE bo J.many xs, errE be J.many ys, blk d 77 [.int .i64 i, .slice sa sn sc, er.1]]) :
    DrawC Tryz.prog tab 62 (regs fnA 19) (CutE fun σ w' => σ = sg19 J next ready bo be d ∧ St w0 (Two bo be) w' [outE bo J.many (xs.set i ⟨.slice sa sn sc, rfl⟩), errE be J.many (ys.set i er), blk d 77 [.int .i64 i, .slice sa sn sc, er.1]]) (sg19 J next ready bo be d) w1 := by
  obtain ⟨er, hone⟩ := er
  have hxi : ∃ x, xs[i]? = some x := ⟨_, List.getElem?_eq_getElem (by omega)⟩
  have hyi : ∃ x, ys[i]? = some x := ⟨_, List.getElem?_eq_getElem (by omega)⟩
  obtain ⟨x0, hxi⟩ := hxi
  obtain ⟨y0, hyi⟩ := hyi
  have ec : cellsL er = [er] := cellsL_one hone
  (refine drawS tabOk mixed [] (Two bo be) [0, 1, 2, 3, 4, 5, 6, 7, 8, 9, 10, 11, 12, 13] (by kernel_rfl) ?_; rintro w1 rfl; replace hS := hS.drew)
  repeat' ((conv => whnf); first | refine RetC.mk ?_ | refine NzC.mk (by decide) ?_ | refine RngC.mk (by omega) (by omega) ?_ | refine IdxC.mk (by omega) (by omega) ?_ | refine hS.ldF 2 rfl rfl hd ?_ | refine IdxC.mk (by omega) (by omega) ?_ | refine brD (fun _ => ?_) (fun _ => ?_) | refine brND (fun _ => ?_) (fun _ => ?_) | refine brN (fun _ => ?_) (fun _ => ?_) | refine brI (fun _ => ?_) (fun _ => ?_))
  (conv => whnf)
  refine hS.setL codO (k := i) (x := ⟨.slice sa sn sc, rfl⟩) 0 rfl hxi (by omega) rfl (fun w' hx1 hS => ?_)
  replace hx1 := hx1.mono (T := Two bo be) fun b hb => .inl hb
  refine KeepC.mk hx1 ?_
  replace hS : St w0 (Two bo be) w' [outE bo J.many (xs.set i ⟨.slice sa sn sc, rfl⟩), errE be J.many ys, blk d 77 [.int .i64 i, .slice sa sn sc, er]] := hS
  repeat' ((conv => whnf); first | refine RetC.mk ?_ | refine NzC.mk (by decide) ?_ | refine RngC.mk (by omega) (by omega) ?_ | refine IdxC.mk (by omega) (by omega) ?_ | refine IdxC.mk (by omega) (by omega) ?_ | refine brD (fun _ => ?_) (fun _ => ?_) | refine brND (fun _ => ?_) (fun _ => ?_) | refine brN (fun _ => ?_) (fun _ => ?_) | refine brI (fun _ => ?_) (fun _ => ?_))
  (conv => whnf)
  rw [ec]
  refine hS.setL codO (k := i) (x := ⟨er, hone⟩) 1 rfl hyi (by omega) rfl (fun w' hx' hS => ?_)
  refine KeepC.mk (hx1.trans (hx'.mono (T := Two bo be) fun b hb => .inr hb)) ?_
  exact CutE.mk ⟨sg19 J next ready bo be d, ⟨rfl, rfl, rfl, rfl, rfl, rfl, rfl, rfl, rfl, trivial⟩, rfl, hS⟩
  rename_i hh
  rw [show cellsL (⟨er, hone⟩ : OneV).val = [er] from ec] at hh
  cases hh
end
section
variable {J : Job} {Ans : Nat → Value → Value → Ent → Prop} {next ready : Nat} {done : Nat → Bool} {bo be : Nat} {O O' T Z : Nat → Prop} {w w' W W1 : World} {cs : List Frame} {xs ys : List OneV} {i j : Nat} {a : Act} {v : Value}
theorem Got.set (h : Got Ans bo be O w xs ys j) (hij : i ≠ j) (x y : OneV) : Got Ans bo be O w (xs.set i x) (ys.set i y) j := by
  obtain ⟨x0, y0, e, h1, h2, h⟩ := h
  exact ⟨x0, y0, e, by rw [List.getElem?_set_ne hij]; exact h1, by rw [List.getElem?_set_ne hij]; exact h2, h⟩
theorem blk4_eq : blk4 = .cond (.tmp 39) (.region 17 (regs fnA 17) false) (.cond (.tmp 40) (.seq (.region 18 (regs fnA 18) false) (.seq (.region 19 (regs fnA 19) true) (.region 20 (regs fnA 20) false))) .skip) := rfl
set_option maxHeartbeats 2000000 in
theorem sel_got (ok : JobOk J) (hm : J.many ≤ 100000) (hi : i < next) (hdi : done i = false) (hlo : ∀ b, O b → J.W0.heap.size ≤ b) (hres : ResJ J Ans i v T W) (hT : ∀ b, T b → ¬ O b ∧ ¬ J.Z b) (hr : ready + left (shopJ J Ans) done = J.many) (hR : RowsC J Ans next done bo be O W) (ho : Objs O W) (hf : Fits 62 (sgM J next ready bo be) a) :
    Way0 Tryz.prog true J.Z (SEL0 J Ans cs next (upd done i true)) (fun b => O b ∨ T b) ((atSel a [0, 1, 2, 3] cs).finishComm Tryz.prog (selc (shopJ J Ans) (.int .i64 0) next) .select 1 v true) W := by
  rw [fin_sel]
  obtain ⟨sa, sn, sc, err, en, rfl, herr, hans, hloc, hold, hft, hTo⟩ := hres
  have ho2 : Objs (fun b => O b ∨ T b) W := fun b hb => hb.elim (ho b) fun x => (hTo b x).2
  have hl : Lag (fun b => O b ∨ T b) J.Z (Pool.view (fun b => O b ∨ T b) J.Z W) W := view_lag ho2
  have him : i < J.many := by have := hR.le; omega
  have hleft := left_upd (X := shopJ J Ans) him hdi
  have hrm : ready < J.many := by omega
  have hne : ∀ b ∈ en.foot, b ≠ bo ∧ b ≠ be := fun b hb => ⟨fun e => (hT b (hft b hb)).1 (e ▸ hR.oo), fun e => (hT b (hft b hb)).1 (e ▸ hR.oe)⟩
  have hzt : ∀ b, J.Z b → ¬ Two bo be b := fun b hz h => by
    have := ok.zlow b hz
    rcases h with rfl | rfl
    · have := hlo _ hR.oo; omega
    · have := hlo _ hR.oe; omega
  have hR2 := (hR.wid (O' := fun b => O b ∨ T b) fun b hb => .inl hb).view
  have hold2 : en.holds (Pool.view (fun b => O b ∨ T b) J.Z W) := hloc _ _ (fun b hb => view_own (.inr (hft b hb))) hold
  clear hR hold ho ho2
  generalize Pool.view (fun b => O b ∨ T b) J.Z W = w at hl hR2 hold2
  have hlt : ∀ b, (O b ∨ T b) → b < w.heap.size := fun b hb => let ⟨o, e, _⟩ := hl.own b hb; (Array.getElem?_eq_some_iff.1 e).1
  obtain ⟨xs, ys, hx, hy, hxe, hye, hgot⟩ := hR2.rows
  have hone : isOne err = true := by rcases herr with rfl | ⟨t, u, rfl⟩ <;> rfl
  have hS0 : St w (Two bo be) w [outE bo J.many xs, errE be J.many ys] := by
    refine ((St.start w (Two bo be)).add outE_local hxe (fun b hb => ?_) (by simp)).add errE_local hye (fun b hb => ?_) fun f hf b hb hb' => ?_
    · obtain rfl : b = bo := by simpa [outE, ownL, own, Value.ownBlock] using hb
      exact ⟨.inl (.inl rfl), hlt _ hR2.oo⟩
    · obtain rfl : b = be := by simpa [errE, ownL, own, Value.ownBlock] using hb
      exact ⟨.inl (.inr rfl), hlt _ hR2.oe⟩
    · obtain rfl : f = outE bo J.many xs := by simpa using hf
      obtain rfl : b = bo := by simpa [outE, ownL, own, Value.ownBlock] using hb
      have : b = be := by simpa [errE, ownL, own, Value.ownBlock] using hb'
      exact hR2.ne this
  have hf1 : Fits 62 ((37, .tuple #[.int .i64 1, .bool true, .agg #[.int .i64 i, .slice sa sn sc, err]]) :: sgL J next ready bo be) (a.put (some 37) (.tuple #[goInt 1, .bool true, if (1 : Int) = 1 then .agg #[.int .i64 i, .slice sa sn sc, err] else zrv])) :=
    (hf.put (d := 37) (by decide) _).weaken (Sub.look_ ⟨rfl, rfl, rfl, rfl, rfl, rfl, rfl, rfl, rfl, trivial⟩)
  unfold atSel
  refine way_ops (Q := fun σ w' => w' = w ∧ Sub ((39, .bool false) :: (40, .bool true) :: (37, .tuple #[.int .i64 1, .bool true, .agg #[.int .i64 i, .slice sa sn sc, err]]) :: sgL J next ready bo be) σ) (tail := []) tabOk 1 3 rfl (by decide) hf1 hl ?_ ?_
  · (conv => whnf)
    exact ⟨rfl, rfl, rfl, rfl, rfl, rfl, rfl, rfl, rfl, rfl, rfl, rfl, trivial⟩
  rintro σ2 a2 w2 O2 W2 ho2 hl2 hf2 ⟨rfl, hs2⟩
  replace hf2 := hf2.weaken hs2.look_
  refine .ctl rfl (fun _ => stepG_region_end) ?_
  rw [blk4_eq]
  refine .ctl rfl (fun _ => stepG_block) ?_
  refine .ctl rfl (fun _ => stepG_cond (t := false) (ro_eval hf2 rfl)) ?_
  refine .ctl rfl (fun _ => stepG_cond (t := true) (ro_eval hf2 rfl)) ?_
  refine .ctl rfl (fun _ => stepG_seq) ?_
  refine way_code (Q := fun e σ w' => e = .normal ∧ ∃ d, ¬ Two bo be d ∧ St w2 (Two bo be) w' [outE bo J.many xs, errE be J.many ys, blk d 77 [.int .i64 i, .slice sa sn sc, err]] ∧ Sub (sg19 J next ready bo be d) σ) tabOk (by decide) hf2 hl2 ?_ ?_
  · have hS := hS0
    (conv => whnf)
    refine hS.new (fun b w' hb hS => ?_)
    replace hS : St w2 (Two bo be) w' [outE bo J.many xs, errE be J.many ys, blk b 77 [.int .i64 0, .slice none 0 0, .nilIface]] := hS
    have hnb : ¬ Two bo be b := fun h => by
      rcases h with rfl | rfl
      · have := hlt _ hR2.oo; omega
      · have := hlt _ hR2.oe; omega
    rcases herr with rfl | ⟨t, u, rfl⟩
    · (conv => whnf)
      refine hS.st 2 rfl (Nat.le_of_ble_eq_true rfl) rfl (fun w' hS => ?_)
      (conv => whnf)
      exact ⟨rfl, b, hnb, hS, rfl, rfl, rfl, rfl, rfl, rfl, rfl, rfl, rfl, trivial⟩
    · (conv => whnf)
      refine hS.st 2 rfl (Nat.le_of_ble_eq_true rfl) rfl (fun w' hS => ?_)
      (conv => whnf)
      exact ⟨rfl, b, hnb, hS, rfl, rfl, rfl, rfl, rfl, rfl, rfl, rfl, rfl, trivial⟩
  rintro e σ3 a3 w3 O3 W3 ho3 hl3 hf3 ⟨rfl, d, hnd, hS3, hs3⟩ _
  replace hf3 := hf3.weaken hs3.look_
  show Way0 _ _ _ _ _ _ _
  refine .ctl rfl (fun _ => stepG_seq) ?_
  refine way_code (Q := fun e σ w' => e = .normal ∧ St w2 (Two bo be) w' [outE bo J.many (xs.set i ⟨.slice sa sn sc, rfl⟩), errE be J.many (ys.set i ⟨err, hone⟩)] ∧ σ = sg19 J next ready bo be d) tabOk (by decide) hf3 hl3 ?_ ?_
  · (conv => whnf)
    refine DrawC.cut _ (regionA19 (er := ⟨err, hone⟩) him hx hy hnd hS3) ?_
    rintro _ w4 ⟨rfl, hS⟩
    (conv => whnf)
    exact ⟨rfl, hS.sel [0, 1] (by decide), rfl⟩
  rintro e σ4 a4 w4 O4 W4 ho4 hl4 hf4 ⟨rfl, hS4, rfl⟩ _
  show Way0 _ _ _ _ _ _ _
  refine way_code (Q := fun e σ w' => e = .normal ∧ w' = w4 ∧ Sub (sgL J next (ready + 1) bo be) σ) tabOk (by decide) hf4 hl4 ?_ ?_
  · (conv => whnf)
    refine RngC.mk (by omega) (by omega) ?_
    (conv => whnf)
    exact ⟨rfl, rfl, rfl, rfl, rfl, rfl, rfl, rfl, rfl, rfl, trivial⟩
  rintro e σ5 a5 w5 O5 W5 ho5 hl5 hf5 ⟨rfl, rfl, hs5⟩ _
  replace hf5 := hf5.weaken hs5.look_
  show Way0 _ _ _ _ _ _ _
  refine .ctl rfl (fun _ => stepG_inBlock) ?_
  refine .ctl rfl (fun _ => stepG_inBlock) ?_
  refine .ctl rfl (fun _ => stepG_inLoop) ?_
  have hO : ∀ b, (O b ∨ T b) → O5 b := fun b hb => ho5 b (ho4 b (ho3 b (ho2 b hb)))
  have hkeep : ∀ b, (O b ∨ T b) → b ≠ bo → b ≠ be → w5.heap[b]? = w2.heap[b]? := fun b hb h1 h2 => hS4.ext.block b (hlt b hb) fun h => h.elim h1 h2
  refine sel_head ok hm (by omega) ⟨hR2.le, fun j hj => ?_, hO _ hR2.oo, hO _ hR2.oe, hR2.ne, fun b o v hb hv => hS4.ext.cell (hR2.seen b o v hb hv) (hzt b hb), _, _, List.length_set.trans hx, List.length_set.trans hy, hS4.get 0 rfl, hS4.get 1 rfl, fun j hj => ?_⟩ hl5 hf5
  · by_cases hji : j = i
    · omega
    · rw [upd_ne _ _ hji] at hj; exact hR2.dlt j hj
  · by_cases hji : j = i
    · subst hji
      exact ⟨_, _, en, List.getElem?_set_self (by omega), List.getElem?_set_self (by omega), ⟨_, _, _, rfl⟩, herr, hans, hloc, hloc _ _ (fun b hb => hkeep b (.inr (hft b hb)) (hne b hb).1 (hne b hb).2) hold2, fun b hb => ⟨hO b (.inr (hft b hb)), hne b hb⟩⟩
    · rw [upd_ne _ _ hji] at hj
      exact ((hgot j hj).keep hO hkeep).set (Ne.symm hji) _ _
end
end Go.Proofs.YtgcbcagaibecbaaGreatDoor.Pool

namespace Go.Proofs.YtgcbcagaibecbaaGreatDoor.Pool
set_option maxRecDepth 20000
open Go Go.Conc Gap Ev Go.RowKit Go.Conc.Lib
open Go.ConcN (upd upd_same upd_ne WgLive sumTo)
open Go.ConcR (Payload WgAt KK)
local instance : Gap.Leaps := noLeaps

def SELJ (J : Job) (Ans : Nat → Value → Value → Ent → Prop) (cs : List Frame) (next : Nat) (done : Nat → Bool) (O : Nat → Prop) (g : Goroutine) (W : World) : Prop :=
  SEL0 J Ans cs next done O g W ∧ Abv (fun b => J.W0.heap.size ≤ b) (fun _ => False) J.W0.heap.size J.W0 O W
section
variable {J : Job} {Ans : Nat → Value → Value → Ent → Prop} {O Z : Nat → Prop} {w W : World} {cs : List Frame} {workers : Nat} {g : Goroutine}
theorem sumTo_one : ∀ n, sumTo n (fun _ => 1) = n
  | 0 => rfl
  | n + 1 => by simp only [sumTo, sumTo_one n]
theorem sumTo_zero {f : Nat → Nat} : ∀ n, (∀ i, i < n → f i = 0) → sumTo n f = 0
  | 0, _ => rfl
  | n + 1, h => by simp only [sumTo, sumTo_zero n fun i hi => h i (by omega), h n (by omega)]
theorem left_pos {X : Shop} {done : Nat → Bool} {i : Nat} (hi : i < X.many) (hd : done i = false) : 0 < left X done := by have := left_upd hi hd; omega
theorem left_none : left (shopJ J Ans) (fun _ => false) = J.many := sumTo_one J.many
theorem left_all {done : Nat → Bool} (h : ∀ i, i < J.many → done i = true) : left (shopJ J Ans) done = 0 := sumTo_zero _ fun i hi => by simp [h i hi]
theorem starter (ok : JobOk J) (hm : J.many ≤ 100000) : Starter (shopJ J Ans) (.int .i64 0) (SELJ J Ans cs) := by
  refine ⟨fun next done O g W ⟨⟨bo, be, ready, hR, ho, hr, hg⟩, hab⟩ => ⟨hR.le, fun hun => ?_⟩⟩
  have hpos : 0 < left (shopJ J Ans) done := by
    rcases hun with h | ⟨i, h1, h2⟩
    · refine left_pos (X := shopJ J Ans) (i := next) h ?_
      cases hd : done next with
      | false => rfl
      | true => have := hR.dlt next hd; omega
    · exact left_pos (X := shopJ J Ans) (i := i) (Nat.lt_of_lt_of_le h1 hR.le) h2
  rcases hg with ⟨_, a, hf, rfl⟩ | ⟨h, _⟩
  rotate_left
  · omega
  refine ⟨rfl, fun w => step_sel hf w, fun hlt => above (fun _ h => h) (sel_sent ok hm hlt hr hR ho hf) hab, fun i v T hi hd hres hT => above (fun _ h => h) (sel_got ok hm hi hd hab.up hres hT hr hR ho hf) ⟨fun b hb => hb.elim (hab.up b) fun x => ?_, fun _ h => h.elim, hab.size, hab.sm⟩⟩
  obtain ⟨_, _, _, _, _, _, _, _, _, _, _, hTo⟩ := hres
  exact (hTo b x).1
theorem sel_status {next : Nat} {done : Nat → Bool} (h : SELJ J Ans cs next done O g W) : g.status ≠ .blocked := by
  obtain ⟨⟨bo, be, ready, hR, ho, hr, ⟨_, a, _, rfl⟩ | ⟨_, a, _, rfl⟩⟩, _⟩ := h <;> exact fun h => by cases h
theorem own_new {b : Nat} {c : Array Value} {t : TypeId} (hl : Lag O Z w W) (hz : ¬ Z b) (h : w.heap[b]? = some (.cells c t (0, 0))) : O b := Classical.byContradiction fun ho => by
  rcases hl.rest b _ ho h with ⟨t2, f2, e⟩ | ⟨hz', _⟩
  · injection e with e1 e2 e3
    subst e1
    exact hz (hl.flat b t ho h).1
  · exact hz hz'
theorem st_exit (ok : JobOk J) (hm : J.many ≤ 100000) (hlow : J.W0.heap.size ≤ W.heap.size) (hs : Seen J W) (hh : HeadG J.many workers J.ct J.cb J.Wg J.bt J.bh J.bb workers cs g) :
    Way0 Tryz.prog true J.Z (SEL0 J Ans cs 0 fun _ => false) (fun _ => False) g W := by
  obtain ⟨a, hf, rfl⟩ := hh
  have hl : Lag (fun _ => False) J.Z (Pool.view (fun _ => False) J.Z W) W := view_lag fun b h => h.elim
  have hseen : Seen J (Pool.view (fun _ => False) J.Z W) := fun b o v hb hv => view_cell (.inr hb) (hs b o v hb hv)
  have hsize : (Pool.view (fun _ => False) J.Z W).heap.size = W.heap.size := by simp [Pool.view]
  generalize Pool.view (fun _ => False) J.Z W = w at hl hseen hsize
  rw [roundS_eq]
  refine way_code (Q := fun e σ w' => e = .exit 0 ∧ w' = w ∧ Sub [(0, .int .i64 J.many), (8, .pointer (some ⟨J.bt, 0, none⟩)), (9, .pointer (some ⟨J.bb, 0, none⟩)), (10, .pointer (some ⟨J.Wg, 0, none⟩))] σ) tabOk (by decide) hf hl ?_ ?_
  · (conv => whnf)
    have e : decide ((workers : Int) < (workers : Int)) = false := decide_eq_false (by omega)
    rw [e]
    (conv => whnf)
    exact ⟨rfl, rfl, rfl, rfl, rfl, rfl, trivial⟩
  rintro e σ1 a1 w1 O1 W1 ho1 hl1 hf1 ⟨rfl, rfl, hs1⟩ _
  replace hf1 := hf1.weaken hs1.look_
  refine ⟨[.code tailA], rfl, ?_⟩
  rw [tailA_eq]
  refine .ctl rfl (fun _ => stepG_seq) ?_
  refine way_code (Q := fun e σ w' => e = .normal ∧ ∃ bo be, St w1 No w' [outE bo J.many (List.replicate J.many nilS), errE be J.many (List.replicate J.many nilE)] ∧ σ = sgP J.many J.bt J.bb J.Wg bo be) tabOk (by decide) hf1 hl1 ?_ ?_
  · (conv => whnf)
    refine DrawC.cut _ (regionA7 hm w1) ?_
    rintro _ w2 ⟨bo, be, rfl, hS⟩
    (conv => whnf)
    exact ⟨rfl, bo, be, st_rebase hS (Ext.drawn _ _ _), rfl⟩
  rintro e σ2 a2 w2 O2 W2 ho2 hl2 hf2 ⟨rfl, bo, be, hS, rfl⟩ _
  show Way0 _ _ _ _ _ _ _
  refine .ctl rfl (fun _ => stepG_seq) ?_
  refine .ctl rfl (fun _ => stepG_seq) ?_
  refine way_code (Q := fun e σ w' => e = .normal ∧ w' = w2 ∧ Sub (sgL J 0 0 bo be) σ) tabOk (by decide) hf2 hl2 ?_ ?_
  · (conv => whnf)
    exact ⟨rfl, rfl, rfl, rfl, rfl, rfl, rfl, rfl, rfl, rfl, trivial⟩
  rintro e σ3 a3 w3 O3 W3 ho3 hl3 hf3 ⟨rfl, rfl, hs3⟩ _
  replace hf3 := hf3.weaken hs3.look_
  show Way0 _ _ _ _ _ _ _
  refine .ctl rfl (fun _ => stepG_block) ?_
  refine .ctl rfl (fun _ => stepG_loop) ?_
  have hb0 := (hS.may (outE bo J.many (List.replicate J.many nilS)) (by simp) bo (by simp [outE, ownL, own, Value.ownBlock])).1.resolve_left id
  have hb1 := (hS.may (errE be J.many (List.replicate J.many nilE)) (by simp) be (by simp [errE, ownL, own, Value.ownBlock])).1.resolve_left id
  have hne : bo ≠ be := fun e => pairwise_at apart_symm hS.apart (i := 0) (j := 1) rfl rfl (by decide) bo (by simp [outE, ownL, own, Value.ownBlock]) (by simp [errE, ownL, own, Value.ownBlock, e])
  have hnz : ∀ b, w1.heap.size ≤ b → ¬ J.Z b := fun b hb hz => by have := ok.zlow b hz; omega
  have own1 : ∀ {b : Nat} {e : TypeId} {xs : List OneV}, w1.heap.size ≤ b → (ownL e 1 encO (.slice (some ⟨b, 0, none⟩) J.many J.many) xs).holds w3 → O3 b := fun hb h => by
    obtain ⟨_, ⟨h6, _⟩ | ⟨g, cap, cur, h6, _, h7, _⟩⟩ := h
    · cases h6
    · injection h6 with e1 _ _
      injection e1 with e1
      injection e1 with e1
      subst e1
      exact own_new hl3 (hnz _ hb) h7
  have hR : RowsC J Ans 0 (fun _ => false) bo be O3 w3 := ⟨by omega, fun i hi => (by cases hi), own1 hb0 (hS.get 0 rfl), own1 hb1 (hS.get 1 rfl), hne, fun b o v hb hv => hS.ext.cell (hseen b o v hb hv) id, _, _, List.length_replicate, List.length_replicate, hS.get 0 rfl, hS.get 1 rfl, fun i hi => (by cases hi)⟩
  exact sel_head ok hm (by rw [left_none]; omega) hR hl3 hf3
end
end Go.Proofs.YtgcbcagaibecbaaGreatDoor.Pool

namespace Go.Proofs.YtgcbcagaibecbaaGreatDoor.Pool
set_option maxRecDepth 20000
open Go Go.Conc Gap Ev Go.RowKit Go.Conc.Lib
open Go.ConcN (upd upd_same upd_ne WgLive sumTo)
open Go.ConcR (Payload WgAt KK DC0)
local instance : Gap.Leaps := noLeaps

open Classical in
noncomputable def knit (O : Nat → Prop) (w W : World) : World := { W with heap := W.heap.mapIdx fun b o => if O b then o else (w.heap[b]?).getD dark }
section
variable {O O' Z : Nat → Prop} {w W W' : World} {b : Nat}
theorem knit_own (h : O b) : (knit O w W).heap[b]? = W.heap[b]? := by
  simp only [knit, Array.getElem?_mapIdx]
  cases W.heap[b]? <;> simp [h]
theorem knit_off (h : ¬ O b) : (knit O w W).heap[b]? = (W.heap[b]?).map fun _ => (w.heap[b]?).getD dark := by
  simp only [knit, Array.getElem?_mapIdx, if_neg h]
theorem knit_size : (knit O w W).heap.size = W.heap.size := by simp [knit]
theorem knit_lag (hl : Lag O Z w W) (hO : ∀ b, O b → O' b) (ho : Objs O' W') (hz : ∀ b, Z b → W'.heap[b]? = W.heap[b]?) : Lag O' Z (knit O' w W') W' := by
  have off : ∀ b o, ¬ O' b → (knit O' w W').heap[b]? = some o → w.heap[b]? = some o ∨ o = dark := fun b o hb h => by
    rw [knit_off hb] at h
    obtain ⟨_, _, h2⟩ := Option.map_eq_some_iff.1 h
    cases hw : w.heap[b]? with
    | none => rw [hw] at h2; exact .inr h2.symm
    | some x => rw [hw] at h2; exact .inl (by rw [← h2]; rfl)
  refine ⟨rfl, rfl, rfl, Nat.le_of_eq knit_size, fun b hb => ?_, fun b o hb h => ?_, fun b t hb h => ?_⟩
  · obtain ⟨o, h1, h2⟩ := ho b hb
    exact ⟨o, (knit_own hb).trans h1, h1, h2⟩
  · rcases off b o hb h with h | rfl
    · rcases hl.rest b o (fun x => hb (hO b x)) h with h1 | ⟨h1, c, t, f, h2, h3⟩
      · exact .inl h1
      · exact .inr ⟨h1, c, t, f, (hz b h1).trans h2, h3⟩
    · exact .inl ⟨_, _, rfl⟩
  · rcases off b _ hb h with h | h
    · obtain ⟨h1, c, h2⟩ := hl.flat b t (fun x => hb (hO b x)) h
      exact ⟨h1, c, (hz b h1).trans h2⟩
    · cases h
theorem knit_ext (hs : Sm w W') (hsz : w.heap.size ≤ W'.heap.size) (ho : ∀ b, O' b → b < w.heap.size → W'.heap[b]? = w.heap[b]?) : Ext No w (knit O' w W') := by
  refine ⟨hs.os, hs.tape, hs.output, by rw [knit_size]; exact hsz, fun b hb _ => ?_⟩
  by_cases h : O' b
  · rw [knit_own h]; exact ho b h hb
  · rw [knit_off h, Array.getElem?_eq_getElem (Nat.lt_of_lt_of_le hb hsz), Array.getElem?_eq_getElem hb]
    rfl
end

noncomputable def frW (a : Act) : Frame := (base iA).at a [.inRegion (regs fnA 22) [0], .code (.seq (.region 23 (regs fnA 23) false) .ret)]
noncomputable def aftW (a : Act) (cs : List Frame) : Goroutine := G ((base iA).at (a.put (some 59) (.tuple #[])) [.inRegion (regs fnA 22) [], .code (.seq (.region 23 (regs fnA 23) false) .ret)]) cs
section
variable {J : Job} {Ans : Nat → Value → Value → Ent → Prop} {O Z : Nat → Prop} {w W : World} {cs : List Frame} {bo be : Nat} {a : Act}
theorem mayWake_close : mayWake Tryz.prog (atClose a cs) = true := rfl
theorem stepG_goes {P : Program} {main : Bool} {R : World → World → Prop} {Stop : Goroutine → World → Prop} {n : Nat} {g g' : Goroutine} {w : World} (hr : g.status = .running) (h : ∀ w, stepG P main g w = .go g' w #[]) (hk : ∀ w1, R w w1 → Goes P main R DC0 Stop n g' w1) : Goes P main R DC0 Stop (n + 1) g w :=
  Goes.step hr fun w1 h1 => by
    rw [h w1]
    simp only [goes_go]
    exact ⟨⟨rfl, rfl⟩, hk w1 h1⟩
theorem close_step (hf : Fits 62 (sgC J bo be) a) (hne : J.ct ≠ J.Wg) (hlv : WgLive 74 J.Wg W) {m : Nat} {tm : Bool} (hc : W.heap[J.ct]? = some (.chan 0 #[] false m m tm)) :
    ∃ a' es, stepG Tryz.prog true (atClose a cs) W = .go a' (W.setChan J.ct 0 #[] true m m tm) es ∧ a'.status = .running ∧ (∀ e ∈ es, e = ⟨.obj J.ct, false, true⟩ ∨ e = ⟨.obj J.ct, true, true⟩) ∧
      ∃ n, Goes Tryz.prog true (RL (shopJ J Ans)) DC0 (SKd (shopJ J Ans) (AnchG wgL (shopJ J Ans) (frW a) cs)) n a' (W.setChan J.ct 0 #[] true m m tm) := by
  refine ⟨_, _, stepG_close rfl rfl (by decide) rfl (x := .tmp 58) (ro_eval hf (x := .tmp 58) rfl) hc (by kernel_rfl), rfl, fun e he => ?_, 7, ?_⟩
  · simpa [closeEvents] using he
  have hlv' : WgLive 74 J.Wg (W.setChan J.ct 0 #[] true m m tm) := let ⟨st, sm, x⟩ := hlv; ⟨st, sm, wgAt_keep x (by
    simp only [World.setChan]
    exact Array.getElem?_setIfInBounds_ne hne)⟩
  generalize W.setChan J.ct 0 #[] true m m tm = W1 at hlv'
  show Goes _ _ _ _ _ _ (G ((base iA).at (a.put none (.tuple #[])) _) cs) _
  rw [show a.put none (.tuple #[]) = a from rfl]
  refine stepG_goes rfl (fun _ => stepG_region_end) fun w1 r1 => ?_
  replace hlv' := r1 hlv'
  refine stepG_goes rfl (fun _ => stepG_seq) fun w2 r2 => ?_
  replace hlv' := r2 hlv'
  refine stepG_goes rfl (fun _ => stepG_region) fun w3 r3 => ?_
  replace hlv' := r3 hlv'
  have hargs : (#[Operand.tmp 10]).map a.eval = #[.pointer (some ⟨J.Wg, 0, none⟩)] := by
    simp only [List.map_toArray, List.map_cons, List.map_nil, ro_eval hf (x := .tmp 10) rfl]
  refine stepG_goes rfl (fun w => callV_enter (f := 27) (args := #[.pointer (some ⟨J.Wg, 0, none⟩)]) rfl rfl (by decide) rfl hargs Tryz.func27 (by kernel_rfl) rfl w) fun w4 r4 => ?_
  replace hlv' := r4 hlv'
  exact waitStart (X := shopJ J Ans) (L := wgL) wgH w4 hlv'
end
end Go.Proofs.YtgcbcagaibecbaaGreatDoor.Pool

namespace Go.Proofs.YtgcbcagaibecbaaGreatDoor.Pool
set_option maxRecDepth 20000
open Go Go.Conc Gap Ev Go.RowKit Go.Conc.Lib
open Go.ConcN (upd upd_same upd_ne WgLive sumTo)
open Go.ConcR (Payload WgAt KK DC0)
local instance : Gap.Leaps := noLeaps

def twoS (bo be many : Nat) : Value := .tuple #[.slice (some ⟨bo, 0, none⟩) many many, .slice (some ⟨be, 0, none⟩) many many]
section
variable {J : Job} {Ans : Nat → Value → Value → Ent → Prop} {O Z : Nat → Prop} {w W : World} {cs : List Frame} {bo be : Nat} {a : Act} {c : Frame}
theorem st_tail (ho : Objs O W) (hf : Fits 62 (sgC J bo be) a) : Way0 Tryz.prog true Z (fun _ g W' => g = G (c.finish (twoS bo be J.many)) cs ∧ ∀ b, O b → W'.heap[b]? = W.heap[b]?) O (aftW a (c :: cs)) W := by
  have hl : Lag O Z (Pool.view O Z W) W := view_lag ho
  have hv : ∀ b, O b → (Pool.view O Z W).heap[b]? = W.heap[b]? := fun b hb => view_own hb
  generalize Pool.view O Z W = w at hl hv
  unfold aftW
  have hf1 : Fits 62 (sgC J bo be) (a.put (some 59) (.tuple #[])) := (hf.put (d := 59) (by decide) (.tuple #[])).weaken (Sub.look_ ⟨rfl, rfl, rfl, rfl, trivial⟩)
  refine .ctl rfl (fun _ => stepG_region_end) ?_
  refine .ctl rfl (fun _ => stepG_seq) ?_
  refine way_code (Q := fun e σ w' => e = .normal ∧ w' = w ∧ Sub [(6, .slice (some ⟨bo, 0, none⟩) J.many J.many), (7, .slice (some ⟨be, 0, none⟩) J.many J.many)] σ) tabOk (by decide) hf1 hl ?_ ?_
  · (conv => whnf)
    exact ⟨rfl, rfl, rfl, rfl, trivial⟩
  rintro e σ1 a1 w1 O1 W1 ho1 hl1 hf1 ⟨rfl, rfl, hs1⟩ _
  replace hf1 := hf1.weaken hs1.look_
  show Way0 _ _ _ _ _ _ _
  refine .ctl rfl (fun _ => stepG_ret') ?_
  have e6 : a1.tmps[6]? = some (.slice (some ⟨bo, 0, none⟩) J.many J.many) := hf1.vals 6 _ rfl
  have e7 : a1.tmps[7]? = some (.slice (some ⟨be, 0, none⟩) J.many J.many) := hf1.vals 7 _ rfl
  have hres : fnA.results = #[.tmp 6, .tmp 7] := rfl
  refine .ctl rfl (fun w => stepG_leave (v := twoS bo be J.many) rfl hf1.defers Tryz.func12 (by simp [results, hres, e6, e7, twoS]) (events_results_tmp2 hres _ _)) ?_
  refine .stop fun W2 h2 => ⟨rfl, fun b hb => ?_⟩
  obtain ⟨o, x1, x2, _⟩ := hl1.own b (ho1 b hb)
  rw [h2.keep b (.inl (ho1 b hb)), x2, ← x1, hv b hb]
end

def AllR (w : World) (many : Nat) (Ans : Nat → Value → Value → Ent → Prop) (v : Value) (w' : World) : Prop :=
  ∃ bo be xs ys, v = twoS bo be many ∧ xs.length = many ∧ ys.length = many ∧ St w No w' [outE bo many xs, errE be many ys] ∧
    ∀ i, i < many → ∃ x y e, xs[i]? = some x ∧ ys[i]? = some y ∧ (∃ a n c, x.1 = .slice a n c) ∧ (y.1 = .nilIface ∨ ∃ t u, y.1 = .iface t u) ∧ Ans i x.1 y.1 e ∧ e.Local ∧ e.holds w' ∧ ∀ b ∈ e.foot, w.heap.size ≤ b ∧ b < w'.heap.size
def HowAt (w : World) (many : Nat) (fh : FuncId) (cap : List Value) (Ans : Nat → Value → Value → Ent → Prop) : Prop :=
  ∀ i : Nat, i < many → ∀ w1 : World, (∀ b o v, w.cell? ⟨b, o, none⟩ = some v → w1.cell? ⟨b, o, none⟩ = some v) → CallC Tryz.prog fh (.int .i64 i :: cap).toArray w1 fun v w' => Ext No w1 w' ∧
    ∃ a n c err e, v = .tuple #[.slice a n c, err] ∧ (err = .nilIface ∨ ∃ t u, err = .iface t u) ∧ Ans i (.slice a n c) err e ∧ e.Local ∧ e.holds w' ∧ ∀ b ∈ e.foot, w1.heap.size ≤ b ∧ ∃ c t, w'.heap[b]? = some (.cells c t (0, 0))
def TA (Z O : Nat → Prop) (w : World) (many : Nat) (Ans : Nat → Value → Value → Ent → Prop) (c : Frame) (cs : List Frame) (O' : Nat → Prop) (g : Goroutine) (W' : World) : Prop :=
  ∃ v w', g = G (c.finish v) cs ∧ (∀ b, O b → O' b) ∧ Lag O' Z w' W' ∧ AllR w many Ans v w'
section
variable {Ans : Nat → Value → Value → Ent → Prop} {Z O : Nat → Prop} {Shun : Loc → Prop} {gs : Array Goroutine} {w W : World} {t : Trace} {sl : Option (Nat × Nat)} {many workers : Nat} {fh : FuncId} {c0 : Value} {cs0 : List Value} {cs : List Frame} {c : Frame}
theorem how_ok {J : Job} (hR : Ready J Z O w W) (hl : Lag O Z w W) (h1 : J.many = many) (h2 : J.fh = fh) (h3 : J.c0 = c0) (h4 : J.cs = cs0) (hh : HowAt w many fh (c0 :: cs0) Ans) : HowOk J Ans := by
  subst h1 h2 h3 h4
  intro i hi w1 hs
  refine hh i hi w1 fun b o v hv => ?_
  by_cases hb : O b
  · exact hs b o v (hR.own b hb).1 (cell_stands hv (hR.own b hb).2)
  · have hc := hl.cell hv
    have hz : Z b := by
      unfold World.cell? at hv
      split at hv
      · rename_i he
        rcases hl.rest b _ hb he with ⟨t, f, e⟩ | ⟨hz, _⟩
        · injection e with e
          subst e
          simp at hv
        · exact hz
      · cases hv
    exact hs b o v (hR.sub b hz) (cell_stands hc.1 (hR.zz b hz))
end
end Go.Proofs.YtgcbcagaibecbaaGreatDoor.Pool

namespace Go.Proofs.YtgcbcagaibecbaaGreatDoor.Pool
set_option maxRecDepth 20000
open Go Go.Conc Gap Ev Go.RowKit Go.Conc.Lib
open Go.ConcN (upd upd_same upd_ne WgLive sumTo)
open Go.ConcR (Payload WgAt KK DC0)
local instance : Gap.Leaps := noLeaps

section
variable {Ans : Nat → Value → Value → Ent → Prop} {Z O : Nat → Prop} {Shun : Loc → Prop} {gs : Array Goroutine} {w W : World} {t : Trace} {sl : Option (Nat × Nat)} {many workers : Nat} {fh : FuncId} {c0 : Value} {cs0 : List Value} {cs : List Frame} {c : Frame}
theorem leap_all (hm : many ≤ 100000) (hw0 : 0 < workers) (hlim : workers ≤ 1000) (hh : HowAt w many fh (c0 :: cs0) Ans) (hC : Calm Tryz.prog Z Shun gs W t O)
    (h0 : gs[0]? = some (G (Frame.enter Tryz.prog iA #[.int .i64 many, .int .i64 workers, .func (.func fh) #[] (c0 :: cs0).toArray] .normal) (c :: cs))) (hl : Lag O Z w W) :
    Comes Tryz.prog (crowd gs W sl) t fun m' t' => ∃ Shun' gs' W' sl' O' g', m' = crowd gs' W' sl' ∧ Calm Tryz.prog Z Shun' gs' W' t' O' ∧ gs'[0]? = some g' ∧ TA Z O w many Ans c cs O' g' W' ∧ ∀ b, Z b → W'.heap[b]? = W.heap[b]? := by
  refine (leap_start (sl := sl) hC h0 hl).bind fun m' t1 ⟨J, gs1, W1, sl1, hm1, e1, e2, e3, e4, hR, hz1, hSp⟩ => ?_
  subst hm1
  have hH : HowOk J Ans := how_ok hR hl e1 e2 e3 e4 hh
  subst e1
  have ok := hR.ok
  have sok := shop_ok ok hH
  have pl : Places (shopJ J Ans) (ShJ J) := ⟨.inl rfl, .inr (.inl rfl), .inr (.inr rfl), hR.nb.1, hR.nb.2.1, hR.nb.2.2⟩
  have hs0 : 0 < gs.size := (Array.getElem?_eq_some_iff.1 h0).1
  refine (spawn_all ok hH pl hlim hs0 workers 0 rfl (Nat.zero_le _) gs1 W1 t1 _ sl1 (hSp Ans)).bind fun m' t2 ⟨gs2, W2, sl2, O2, hm2, hS⟩ => ?_
  subst hm2
  obtain ⟨a2, h02, hhead⟩ := hS.head
  have hseen2 : Seen J W2 := fun b o v hb hv => cell_stands hv (hS.zk b hb)
  have hway : Way0 Tryz.prog true J.Z (SELJ J Ans (c :: cs) 0 fun _ => false) (upd O2 0 (fun _ => False) 0) a2 W2 := by
    rw [upd_same]
    exact above (fun _ h => h) (st_exit ok hm hS.low hseen2 hhead) ⟨fun _ h => h.elim, fun _ h => h.elim, hS.low, hS.sm⟩
  have hex : ∃ j, gs.size ≤ j ∧ j < gs2.size := ⟨gs.size, Nat.le_refl _, by have := hS.size; omega⟩
  refine (pool (X := shopJ J Ans) (zs := .int .i64 0) (SEL := SELJ J Ans (c :: cs)) (sl := sl2) sok (starter ok hm) pl hex (fun _ _ _ _ _ h => sel_status h) (hS.idle.less (O1 := fun _ => False) fun _ h => h.elim) hS.chb (wgAt_live hS.wg) h02 hway).bind fun m' t3 ⟨gs3, W3, sl3, O3, a3, done, hm3, hz3, hI3, hcb3, hwg3, hzk3, h03, hsel, hall⟩ => ?_
  subst hm3
  obtain ⟨⟨bo, be, ready, hRows, hobj, hready, hat⟩, hab⟩ := hsel W3 (.refl W3)
  have hl0 : left (shopJ J Ans) done = 0 := left_all hall
  rcases hat with ⟨h, _⟩ | ⟨_, act, hf, rfl⟩
  · omega
  have hwg3' : WgAt 74 J.Wg W3 ((gs3.size - gs.size : Nat) * KK) 0 := by
    have : gs3.size - gs.size = workers := by have := hS.size; omega
    rw [this]
    exact wgAt_keep hS.wg hwg3
  have eK : (fun j => gs.size ≤ j ∧ j < gs2.size) = fun j => gs.size ≤ j ∧ j < gs3.size := by rw [hz3]
  rw [eK] at hI3
  have hcht3 : Chan J.ct W3 := hI3.chan (by rw [← eK] at *; exact hex)
  refine (shut (X := shopJ J Ans) (Anch := AnchG wgL (shopJ J Ans) (frW act) (c :: cs)) (Fin := FinG Tryz.prog (aftW act (c :: cs))) (sl := sl3) sok (fun g w ⟨T, e, _⟩ => by rw [e]; rfl) (fun g w h => waitRound (X := shopJ J Ans) (L := wgL) wgH g w h) hR.nb.2.1 ⟨.inl rfl, .inr (.inr rfl)⟩ (by have := hS.size; omega) hs0 hI3 hcht3 h03 rfl mayWake_close hwg3'
    (fun e m tm hc => close_step (W := W3.at e) hf hR.nb.2.1 ⟨_, _, hwg3'⟩ hc)).bind fun m' t4 ⟨gs4, W4, sl4, a4, hm4, hz4, h04, hfin, hrel, hI4⟩ => ?_
  subst hm4
  obtain ⟨n, hgo⟩ := hfin W4
  refine (beside_goes (X := shopJ J Ans) (R := AtRel) sok (fun w d => ⟨d, rfl⟩) n a4 gs4 W4 t4 sl4 hgo hI4 h04).bind fun m' t5 ⟨gs5, W5, sl5, a5, hm5, hI5, h05, hz5, ⟨e5, hW5⟩, ha5⟩ => ?_
  subst hm5
  obtain rfl : a5 = aftW act (c :: cs) := ha5 W5 ⟨W5.drawn, rfl⟩
  have hrel5 : Rely (O3 0) J.Z W3 W5 := by rw [hW5]; exact hrel.trans (rely_at W4 e5)
  have hobj5 : Objs (O3 0) W5 := fun b hb => let ⟨o, x1, x2⟩ := hobj b hb; ⟨o, (hrel5.keep b (.inl hb)).trans x1, x2⟩
  refine (beside (X := shopJ J Ans) sok (above (p := fun _ => True) (q := O3 0) (n := W5.heap.size) (w0 := W5) (fun _ _ => trivial) (st_tail (Z := J.Z) (cs := cs) (c := c) hobj5 hf) ⟨fun _ _ => trivial, fun _ h => h, Nat.le_refl _, .refl W5⟩) gs5 t5 (fun g b => g = 0 ∧ O3 0 b) sl5 (by funext b; simp) hI5 h05).mono fun m' t6 ⟨gs6, W6, sl6, O6, a6, hm6, hI6, h06, hz6, hO6, hk6, hst⟩ => ?_
  obtain ⟨⟨rfl, hkeep⟩, hab6⟩ := hst W6 (.refl W6)
  have eO : upd O6 0 (O3 0) = fun g b => g = 0 ∧ O3 0 b := by
    funext g b
    by_cases hg : g = 0
    · subst hg; rw [upd_same]; simp
    · rw [upd_ne _ _ hg, hO6 g hg]
  have hI7 := hI6.less (O1 := O3 0) hab6.dn
  rw [eO] at hI7
  have hcalm : Calm Tryz.prog Z _ gs6 W6 t6 (fun b => O3 0 b ∨ (J.Z b ∧ ¬ Z b)) := idle_calm (X := shopJ J Ans) hR.sub hI7
  have notZ : ∀ b, O b → ¬ Z b := fun b hb => hC.core.apart.shr 0 b ⟨rfl, hb⟩
  have z6 : ∀ b, J.Z b → W6.heap[b]? = J.W0.heap[b]? := fun b hb => (hk6 b (.inr hb)).trans ((hrel5.keep b (.inr hb)).trans ((hzk3 b hb).trans (hS.zk b hb)))
  have o6 : ∀ b, O3 0 b → W6.heap[b]? = W3.heap[b]? := fun b hb => (hkeep b hb).trans (hrel5.keep b (.inl hb))
  have hobj6 : Objs (fun b => O3 0 b ∨ (J.Z b ∧ ¬ Z b)) W6 := fun b hb => by
    rcases hb with hb | ⟨hb, hn⟩
    · obtain ⟨o, x1, x2⟩ := hobj b hb
      exact ⟨o, (o6 b hb).trans x1, x2⟩
    · obtain ⟨o, x1, x2⟩ := hR.objs b hb hn
      exact ⟨o, (z6 b hb).trans x1, x2⟩
  have hOO : ∀ b, O b → (O3 0 b ∨ (J.Z b ∧ ¬ Z b)) := fun b hb => .inr ⟨(hR.own b hb).1, notZ b hb⟩
  have hsz : w.heap.size ≤ J.W0.heap.size := Nat.le_trans hl.size hR.size
  have hsz6 : J.W0.heap.size ≤ W6.heap.size := Nat.le_trans hab.size (Nat.le_trans hrel5.size hab6.size)
  have hsm : Sm w W6 := (Sm.trans ⟨hl.os.symm, hl.tape.symm, hl.output.symm⟩ hR.sm).trans (hab.sm.trans ((Sm.rely hrel5).trans hab6.sm))
  have hlag := knit_lag hl hOO hobj6 fun b hb => (z6 b (hR.sub b hb)).trans (hR.zz b hb)
  have hext : Ext No w (knit (fun b => O3 0 b ∨ (J.Z b ∧ ¬ Z b)) w W6) := knit_ext hsm (Nat.le_trans hsz hsz6) fun b hb hlt => by
    rcases hb with hb | ⟨hb, hn⟩
    · have : J.W0.heap.size ≤ b := hab.up b hb
      omega
    · rcases hR.news b hb with h | h | h
      · exact absurd h hn
      · exact (z6 b hb).trans (hR.own b h).2
      · omega
  have hk : ∀ b, O3 0 b → (knit (fun b => O3 0 b ∨ (J.Z b ∧ ¬ Z b)) w W6).heap[b]? = W3.heap[b]? := fun b hb => (knit_own (.inl hb)).trans (o6 b hb)
  have hbig : ∀ b, O3 0 b → w.heap.size ≤ b ∧ b < (knit (fun b => O3 0 b ∨ (J.Z b ∧ ¬ Z b)) w W6).heap.size := fun b hb => by
    have h1 : J.W0.heap.size ≤ b := hab.up b hb
    obtain ⟨o, x1, _⟩ := hobj6 b (.inl hb)
    have := (Array.getElem?_eq_some_iff.1 x1).1
    rw [knit_size]
    exact ⟨by omega, this⟩
  obtain ⟨xs, ys, hx, hy, hxe, hye, hgot⟩ := hRows.rows
  have fo : ∀ b, b ∈ (outE bo J.many xs).foot → b = bo := fun b hb => by simpa [outE, ownL, own, Value.ownBlock] using hb
  have fe : ∀ b, b ∈ (errE be J.many ys).foot → b = be := fun b hb => by simpa [errE, ownL, own, Value.ownBlock] using hb
  refine ⟨_, gs6, W6, sl6, _, _, hm6, hcalm, h06, ⟨twoS bo be J.many, _, rfl, hOO, hlag, bo, be, xs, ys, rfl, hx, hy, ⟨hext, fun e he => ?_, fun e he => ?_, fun e he b hb => ?_, ?_⟩, fun i hi => ?_⟩, fun b hb => (z6 b (hR.sub b hb)).trans (hR.zz b hb)⟩
  · simp only [List.mem_cons, List.not_mem_nil, or_false] at he
    rcases he with rfl | rfl
    · exact outE_local _ _ (fun b hb => hk b (fo b hb ▸ hRows.oo)) hxe
    · exact errE_local _ _ (fun b hb => hk b (fe b hb ▸ hRows.oe)) hye
  · simp only [List.mem_cons, List.not_mem_nil, or_false] at he
    rcases he with rfl | rfl
    · exact outE_local
    · exact errE_local
  · simp only [List.mem_cons, List.not_mem_nil, or_false] at he
    rcases he with rfl | rfl
    · have := hbig b (fo b hb ▸ hRows.oo); exact ⟨.inr this.1, this.2⟩
    · have := hbig b (fe b hb ▸ hRows.oe); exact ⟨.inr this.1, this.2⟩
  · refine .cons (fun f hf b hb hb' => ?_) (.cons (by simp) .nil)
    obtain rfl : f = errE be J.many ys := by simpa using hf
    exact hRows.ne ((fo b hb).symm.trans (fe b hb'))
  · obtain ⟨x, y, e, g1, g2, g3, g4, g5, g6, g7, g8⟩ := hgot i (hall i hi)
    exact ⟨x, y, e, g1, g2, g3, g4, g5, g6, g6 _ _ (fun b hb => hk b (g8 b hb).1) g7, fun b hb => hbig b (g8 b hb).1⟩
end
end Go.Proofs.YtgcbcagaibecbaaGreatDoor.Pool

namespace Go.Proofs.YtgcbcagaibecbaaGreatDoor.Pool
set_option maxRecDepth 20000
open Go Go.Conc Gap Ev Go.RowKit Go.Conc.Lib
local instance : Gap.Leaps := onLeaps

theorem all_ok {Ans : Nat → Value → Value → Ent → Prop} {w : World} {many workers : Nat} {fh : FuncId} {c0 : Value} {cs0 : List Value} (hm : many ≤ 100000) (hw0 : 0 < workers) (hlim : workers ≤ 1000) (hh : HowAt w many fh (c0 :: cs0) Ans) :
    CallC Tryz.prog iA [.int .i64 many, .int .i64 workers, .func (.func fh) #[] (c0 :: cs0).toArray].toArray w (AllR w many Ans) := by
  have hcf := callFunc_body (P := Tryz.prog) [.int .i64 many, .int .i64 workers, .func (.func fh) #[] (c0 :: cs0).toArray].toArray Tryz.func12 (by kernel_rfl) rfl
  refine ⟨.inl ⟨.of hcf.1 (hcf.2 w) rfl rfl, ⟨.inr fun main Z Stop O W c cs _ hl hk => ?_⟩⟩⟩
  refine .leap (TA Z O w many Ans c cs) rfl (fun W1 h1 hmain Shun gs t sl hC h0 => leap_all hm hw0 hlim hh hC h0 (hl.rely h1)) fun O' g' W' ⟨v, w', e, ho, hl', hr⟩ => ?_
  subst e
  exact hk v w' O' W' ho hl' hr
end Go.Proofs.YtgcbcagaibecbaaGreatDoor.Pool

namespace Go.Proofs.YtgcbcagaibecbaaGreatDoor.Ev
set_option maxRecDepth 20000
open Go
variable [Go.Proofs.YtgcbcagaibecbaaGreatDoor.Gap.Leaps]

def I64 (n : Int) : Prop := -9223372036854775808 ≤ n ∧ n ≤ 9223372036854775807
def Pr.ok : Pr → Prop
  | .int n => I64 n
  | .bool _ => True
  | .str s => s.size ≤ maxLen

section
variable {P : Program} {w : World}
end
end Go.Proofs.YtgcbcagaibecbaaGreatDoor.Ev

namespace Go.Proofs.YtgcbcagaibecbaaGreatDoor
set_option maxRecDepth 20000
open Go Ev
variable [Go.Proofs.YtgcbcagaibecbaaGreatDoor.Gap.Leaps]

theorem plain_extern {P : Program} {f : FuncId} {fn : Func} {e : Array Value → Sem Value} (hf : P.funcs[f]? = some fn) (hname : (fn.name == "runtime.NumGoroutine") = false)
    (hb : fn.body.isNone = true) (hn : Extern.findNext fn = none) (he : Extern.find fn = some e) (args : Array Value) (hp : Gap.Plain P (e args)) : Gap.Plain P (callFunc f args) := by
  have h1 : fn.name ≠ "runtime.NumGoroutine" := by simpa using hname
  have h2 : fn.body = none := by simpa using hb
  unfold callFunc
  refine Gap.plain_prog ?_
  simp only [hf, h1, h2, hn, he, beq_iff_eq, if_false, Option.isNone_none, if_true]
  refine Gap.plain_bind ⟨.inr ⟨f, rfl⟩, trivial⟩ fun _ => ?_
  exact Gap.plain_bind hp fun _ => trivial

theorem count_ext (l : List UInt8) (c : UInt8) (w : World) : CallC Tryz.prog 81 #[.string (bs l), .int .u8 (c.toNat : Int)] w fun v w' => v = .int .i64 (l.count c : Int) ∧ w = w' := by
  have hr : (callFunc 81 #[.string (bs l), .int .u8 (c.toNat : Int)]).run Tryz.prog w = .ok (.value (.int .i64 (l.count c : Int))) w := by
    rw [run_callFunc_extern Tryz.func81 (by kernel_rfl) (by kernel_rfl) (by kernel_rfl) (e := Extern.BytealgCount.count) (by kernel_rfl), Lib.run_countString]
    simp [Result.andThen, Lib.countByte, bs]
  refine CallC.extern (plain_extern Tryz.func81 (by kernel_rfl) (by kernel_rfl) (by kernel_rfl) (e := Extern.BytealgCount.count) (by kernel_rfl) _ ?_) hr rfl rfl ⟨rfl, rfl⟩
  exact trivial
theorem index_ext (l : List UInt8) (c : UInt8) (w : World) : CallC Tryz.prog 105 #[.string (bs l), .int .u8 (c.toNat : Int)] w fun v w' => v = .int .i64 (Lib.indexByte l c) ∧ w = w' := by
  have hr : (callFunc 105 #[.string (bs l), .int .u8 (c.toNat : Int)]).run Tryz.prog w = .ok (.value (.int .i64 (Lib.indexByte l c))) w := by
    rw [run_callFunc_extern Tryz.func105 (by kernel_rfl) (by kernel_rfl) (by kernel_rfl) (e := Extern.BytealgIndexByte.indexByte) (by kernel_rfl), Lib.run_indexByteString]
    simp [Result.andThen, bs]
  refine CallC.extern (plain_extern Tryz.func105 (by kernel_rfl) (by kernel_rfl) (by kernel_rfl) (e := Extern.BytealgIndexByte.indexByte) (by kernel_rfl) _ ?_) hr rfl rfl ⟨rfl, rfl⟩
  show Gap.Plain _ (match (List.range (bs l).size).find? fun i => (bs l)[i]! == _ with
    | some i => pure (goInt i)
    | none => pure (goInt (-1)) : Sem Value)
  split <;> trivial

theorem indexByte_ok (l : List UInt8) (c : UInt8) (w : World) : CallC Tryz.prog 93 #[.string (bs l), .int .u8 (c.toNat : Int)] w fun v w' => v = .int .i64 (Lib.indexByte l c) ∧ w = w' := by
  refine fn_intro tabOk Tryz.func93 (by kernel_rfl) rfl Tryz.ntmps93 (Nat.le_of_ble_eq_true rfl) ?_
  (conv => whnf)
  refine (index_ext l c _).mono ?_
  rintro v w' ⟨rfl, rfl⟩
  repeat' ((conv => whnf); first | refine RetC.mk ?_ | refine NzC.mk (by decide) ?_ | refine RngC.mk (by omega) (by omega) ?_ | refine IdxC.mk (by omega) (by omega) ?_ | refine brD (fun _ => ?_) (fun _ => ?_) | refine brND (fun _ => ?_) (fun _ => ?_) | refine brN (fun _ => ?_) (fun _ => ?_) | refine brI (fun _ => ?_) (fun _ => ?_))
  exact ⟨rfl, rfl⟩
theorem index1_ok (l : List UInt8) (c : UInt8) (w : World) : CallC Tryz.prog 82 #[.string (bs l), .string (bs [c])] w fun v w' => v = .int .i64 (Lib.indexByte l c) ∧ w = w' := by
  refine fn_intro tabOk Tryz.func82 (by kernel_rfl) rfl Tryz.ntmps82 (Nat.le_of_ble_eq_true rfl) ?_
  (conv => whnf)
  refine eqS2 ?_
  by_cases hl : [c] = l
  · rw [decide_eq_true hl]
    subst hl
    repeat' ((conv => whnf); first | refine RetC.mk ?_ | refine NzC.mk (by decide) ?_ | refine RngC.mk (by omega) (by omega) ?_ | refine IdxC.mk (by omega) (by omega) ?_ | refine brD (fun _ => ?_) (fun _ => ?_) | refine brND (fun _ => ?_) (fun _ => ?_) | refine brN (fun _ => ?_) (fun _ => ?_) | refine brI (fun _ => ?_) (fun _ => ?_))
    exact ⟨by simp [Lib.indexByte], rfl⟩
  · rw [decide_eq_false hl]
    (conv => whnf)
    refine idxS (j := 0) Tryz.underlying9 rfl (x := c) rfl ?_
    (conv => whnf)
    refine (indexByte_ok l c _).mono ?_
    rintro v w' ⟨rfl, rfl⟩
    repeat' ((conv => whnf); first | refine RetC.mk ?_ | refine NzC.mk (by decide) ?_ | refine RngC.mk (by omega) (by omega) ?_ | refine IdxC.mk (by omega) (by omega) ?_ | refine brD (fun _ => ?_) (fun _ => ?_) | refine brND (fun _ => ?_) (fun _ => ?_) | refine brN (fun _ => ?_) (fun _ => ?_) | refine brI (fun _ => ?_) (fun _ => ?_))
    exact ⟨rfl, rfl⟩
theorem index_ok (l : List UInt8) (c : UInt8) (w : World) : CallC Tryz.prog 62 #[.string (bs l), .string (bs [c])] w fun v w' => v = .int .i64 (Lib.indexByte l c) ∧ w = w' := by
  refine fn_intro tabOk Tryz.func62 (by kernel_rfl) rfl Tryz.ntmps62 (Nat.le_of_ble_eq_true rfl) ?_
  (conv => whnf)
  refine (index1_ok l c _).mono ?_
  rintro v w' ⟨rfl, rfl⟩
  repeat' ((conv => whnf); first | refine RetC.mk ?_ | refine NzC.mk (by decide) ?_ | refine RngC.mk (by omega) (by omega) ?_ | refine IdxC.mk (by omega) (by omega) ?_ | refine brD (fun _ => ?_) (fun _ => ?_) | refine brND (fun _ => ?_) (fun _ => ?_) | refine brN (fun _ => ?_) (fun _ => ?_) | refine brI (fun _ => ?_) (fun _ => ?_))
  exact ⟨rfl, rfl⟩
theorem count_ok (l : List UInt8) (c : UInt8) (w : World) : CallC Tryz.prog 61 #[.string (bs l), .string (bs [c])] w fun v w' => v = .int .i64 (l.count c : Int) ∧ w = w' := by
  refine fn_intro tabOk Tryz.func61 (by kernel_rfl) rfl Tryz.ntmps61 (Nat.le_of_ble_eq_true rfl) ?_
  (conv => whnf)
  refine idxS (j := 0) Tryz.underlying9 rfl (x := c) rfl ?_
  (conv => whnf)
  refine (count_ext l c _).mono ?_
  rintro v w' ⟨rfl, rfl⟩
  repeat' ((conv => whnf); first | refine RetC.mk ?_ | refine NzC.mk (by decide) ?_ | refine RngC.mk (by omega) (by omega) ?_ | refine IdxC.mk (by omega) (by omega) ?_ | refine brD (fun _ => ?_) (fun _ => ?_) | refine brND (fun _ => ?_) (fun _ => ?_) | refine brN (fun _ => ?_) (fun _ => ?_) | refine brI (fun _ => ?_) (fun _ => ?_))
  exact ⟨rfl, rfl⟩

theorem index_cases (l : List UInt8) (c : UInt8) : (Lib.indexByte l c = -1 ∧ c ∉ l) ∨ ∃ i : Nat, Lib.indexByte l c = i ∧ i < l.length ∧ c ∉ l.take i ∧ l.drop i = c :: l.drop (i + 1) := by
  induction l with
  | nil => exact .inl ⟨rfl, by simp⟩
  | cons b l ih =>
    unfold Lib.indexByte
    by_cases hb : b = c
    · subst hb
      exact .inr ⟨0, by simp, by simp, by simp, rfl⟩
    · have hb' : (b == c) = false := by simpa using hb
      rw [if_neg (by rw [hb']; simp)]
      rcases ih with ⟨h1, h2⟩ | ⟨i, h1, h2, h3, h4⟩
      · rw [if_pos (by rw [h1]; rfl)]
        exact .inl ⟨rfl, by simp [Ne.symm hb, h2]⟩
      · have : ((i : Int) == -1) = false := by simp
        rw [h1, if_neg (by simp [this])]
        exact .inr ⟨i + 1, by omega, Nat.succ_lt_succ h2, by simp [Ne.symm hb, h3], by simpa using h4⟩
theorem cut_plain (l : List UInt8) (c : UInt8) : Lib.cut l [c] = if Lib.indexByte l c = -1 then (l, [], false) else (l.take (Lib.indexByte l c).toNat, l.drop ((Lib.indexByte l c).toNat + 1), true) := by
  unfold Lib.cut
  rw [Lib.index_one]
  rcases index_cases l c with ⟨h1, _⟩ | ⟨i, h1, _⟩
  · rw [h1]; rfl
  · rw [h1, if_pos (by omega), if_neg (by omega)]
    rfl
theorem scut_ok (l : List UInt8) (c : UInt8) (w : World) (hl : l.length ≤ 100000) :
    CallC Tryz.prog 64 #[.string (bs l), .string (bs [c])] w fun v w' => v = .tuple #[.string (bs (Lib.cut l [c]).1), .string (bs (Lib.cut l [c]).2.1), .bool (Lib.cut l [c]).2.2] ∧ Ext No w w' := by
  refine fn_intro tabOk Tryz.func64 (by kernel_rfl) rfl Tryz.ntmps64 (Nat.le_of_ble_eq_true rfl) ?_
  have hS := St.start w No
  (conv => whnf)
  refine (index1_ok l c _).mono ?_
  rintro v w' ⟨rfl, rfl⟩
  rw [cut_plain]
  rcases index_cases l c with ⟨h1, _⟩ | ⟨i, h1, h2, _⟩
  · rw [h1, if_pos rfl]
    repeat' ((conv => whnf); first | refine RetC.mk ?_ | refine NzC.mk (by decide) ?_ | refine RngC.mk (by omega) (by omega) ?_ | refine IdxC.mk (by omega) (by omega) ?_ | refine brD (fun _ => ?_) (fun _ => ?_) | refine brND (fun _ => ?_) (fun _ => ?_) | refine brN (fun _ => ?_) (fun _ => ?_) | refine brI (fun _ => ?_) (fun _ => ?_))
    exact ⟨rfl, hS.ext⟩
  · rw [h1, if_neg (by omega)]
    have hc1 : (bs [c]).size = 1 := rfl
    have hge : decide ((i : Int) ≥ 0) = true := decide_eq_true (by omega)
    (conv => whnf)
    rw [hge]
    (conv => whnf)
    (refine drawS tabOk mixed [] No [0, 1, 2, 3, 4, 5, 6, 7, 8, 9, 10, 11] (by kernel_rfl) ?_; rintro w1 rfl; replace hS := hS.drew)
    (conv => whnf)
    refine slcTo Tryz.underlying9 (b := i) rfl (by omega) rfl ?_
    (conv => whnf)
    refine RngC.mk (by omega) (by omega) ?_
    (conv => whnf)
    refine slcFrom Tryz.underlying9 (b := i + 1) (by omega) (by omega) rfl ?_
    repeat' ((conv => whnf); first | refine RetC.mk ?_ | refine NzC.mk (by decide) ?_ | refine RngC.mk (by omega) (by omega) ?_ | refine IdxC.mk (by omega) (by omega) ?_ | refine brD (fun _ => ?_) (fun _ => ?_) | refine brND (fun _ => ?_) (fun _ => ?_) | refine brN (fun _ => ?_) (fun _ => ?_) | refine brI (fun _ => ?_) (fun _ => ?_))
    exact ⟨rfl, hS.ext⟩
theorem scutT_ok (l : List UInt8) (c : UInt8) (w : World) (hl : l.length ≤ 100000) :
    CallC Tryz.prog 37 #[.string (bs l), .string (bs [c])] w fun v w' => v = .tuple #[.string (bs (Lib.cut l [c]).1), .string (bs (Lib.cut l [c]).2.1), .bool (Lib.cut l [c]).2.2] ∧ Ext No w w' := by
  refine fn_intro tabOk Tryz.func37 (by kernel_rfl) rfl Tryz.ntmps37 (Nat.le_of_ble_eq_true rfl) ?_
  have hS := St.start w No
  (conv => whnf)
  refine (scut_ok l c _ hl).mono ?_
  rintro v w' ⟨rfl, hx⟩
  replace hS := hS.no hx
  repeat' ((conv => whnf); first | refine RetC.mk ?_ | refine NzC.mk (by decide) ?_ | refine RngC.mk (by omega) (by omega) ?_ | refine IdxC.mk (by omega) (by omega) ?_ | refine brD (fun _ => ?_) (fun _ => ?_) | refine brND (fun _ => ?_) (fun _ => ?_) | refine brN (fun _ => ?_) (fun _ => ?_) | refine brI (fun _ => ?_) (fun _ => ?_))
  exact ⟨rfl, hS.ext⟩
end Go.Proofs.YtgcbcagaibecbaaGreatDoor

namespace Go.Proofs.YtgcbcagaibecbaaGreatDoor
set_option maxRecDepth 20000
open Go Ev
variable [Go.Proofs.YtgcbcagaibecbaaGreatDoor.Gap.Leaps]

structure PktS where
  proto : Int
  sa : Int
  sp : Int
  da : Int
  dp : Int
  flags : Int
deriving DecidableEq
def endB (a p : Int) : Bool := decide (0 ≤ a ∧ a ≤ 1048576 ∧ 1 ≤ p ∧ p ≤ 65535)
def PktS.bad (p : PktS) : Bool := decide ((p.proto ≠ 1 ∧ p.proto ≠ 2) ∨ endB p.sa p.sp = false ∨ endB p.da p.dp = false ∨ p.flags < 0 ∨ p.flags > 15)
def PktS.err (p : PktS) : Nat := if p.bad = true then 2 else if p.proto = 1 ∧ p.flags ≠ 0 then 3 else 0
end Go.Proofs.YtgcbcagaibecbaaGreatDoor

namespace Go.Proofs.YtgcbcagaibecbaaGreatDoor
set_option maxRecDepth 20000
open Go Ev
variable [Go.Proofs.YtgcbcagaibecbaaGreatDoor.Gap.Leaps]

structure RuleS where
  allow : Bool
  out : Bool
  proto : Int
  low : Int
  top : Int
deriving DecidableEq
def encRule (r : RuleS) : List Value := [.bool r.allow, .bool r.out, .int .i64 r.proto, .int .i64 r.low, .int .i64 r.top]
theorem codRule : Codec 5 encRule := ⟨fun _ => rfl, fun _ => rfl, by decide⟩
def noRule : RuleS := ⟨false, false, 0, 0, 0⟩
def RuleS.bad (r : RuleS) : Bool := decide (r.proto < 0 ∨ r.proto > 2 ∨ r.low < 1 ∨ r.low > r.top ∨ r.top > 65535)
def badI : List RuleS → Nat → Int
  | [], _ => -1
  | r :: l, k => match r.bad with
    | true => (k : Int)
    | false => badI l (k + 1)
theorem badI_step {l : List RuleS} {k : Nat} {r : RuleS} (h : l[k]? = some r) : badI (l.drop k) k = match r.bad with | true => (k : Int) | false => badI (l.drop (k + 1)) (k + 1) := by
  obtain ⟨lt, e⟩ := List.getElem?_eq_some_iff.1 h
  rw [List.drop_eq_getElem_cons lt, e]
  rfl
theorem badI_ge : ∀ (l : List RuleS) (k : Nat), -1 ≤ badI l k ∧ badI l k < k + l.length
  | [], k => by simp [badI]; omega
  | r :: l, k => by
    unfold badI
    have := badI_ge l (k + 1)
    cases h : r.bad
    all_goals simp only [List.length_cons]
    all_goals omega
def faultL (l : List RuleS) : Nat × Int := if l.length > 20 then (2, -1) else if badI l 0 < 0 then (0, -1) else (2, badI l 0)
def GoodR (l : List RuleS) : Prop := l.length ≤ 20 ∧ ∀ r ∈ l, r.bad = false
instance (l : List RuleS) : Decidable (GoodR l) := by unfold GoodR; infer_instance
theorem fault_code (l : List RuleS) : (faultL l).1 = 0 ∧ (faultL l).2 = -1 ∨ (faultL l).1 = 2 ∧ (faultL l).2 = -1 ∨ (faultL l).1 = 2 ∧ 0 ≤ (faultL l).2 := by
  unfold faultL
  split
  · exact .inr (.inl ⟨rfl, rfl⟩)
  · split
    · exact .inl ⟨rfl, rfl⟩
    · exact .inr (.inr ⟨rfl, by dsimp only; omega⟩)

structure ErrC (w : World) (E : Nat → Addr) (n : Nat) (ks : List Nat) : Prop where
  at_ : ∀ k, ks.contains k = true → w.cell? ⟨gErr k, 0, none⟩ = some (.iface 189 (.pointer (some (E k))))
  lt : ∀ k, ks.contains k = true → gErr k < n
theorem Errs.cells {w : World} {E : Nat → Addr} {n : Nat} {ks : List Nat} (h : Errs w E n ks) : ErrC w E n ks := ⟨h.at_, h.lt⟩
theorem ErrC.ext {w w' : World} {E : Nat → Addr} {n : Nat} {ks : List Nat} {S : Nat → Prop} (h : ErrC w E n ks) (hx : Ext S w w') (hS : ∀ b, S b → n ≤ b) : ErrC w' E n ks :=
  ⟨fun k hk => hx.cell (h.at_ k hk) (fun hs => by have := hS _ hs; have := h.lt k hk; omega), h.lt⟩
theorem ErrC.sub {w : World} {E : Nat → Addr} {n : Nat} {ks ks' : List Nat} (h : ErrC w E n ks) (hs : ks'.all (fun k => ks.contains k) = true) : ErrC w E n ks' := by
  have key : ∀ k, ks'.contains k = true → ks.contains k = true := fun k hk => List.all_eq_true.1 hs k (by simpa using hk)
  exact ⟨fun k hk => h.at_ k (key k hk), fun k hk => h.lt k (key k hk)⟩

def FaultV (E : Nat → Addr) (w0 w : World) (v : Value) (c : Nat) (a : Int) : Prop :=
  (a = -1 ∧ v = errV E c) ∨ (0 ≤ a ∧ 0 < c ∧ ∃ f, v = .iface 47 (.pointer (some ⟨f, 0, none⟩)) ∧ w0.heap.size ≤ f ∧ Blk w f 51 [.int .i64 a, errV E c])
theorem FaultV.no {E : Nat → Addr} {w0 w w' : World} {v : Value} {c : Nat} {a : Int} (h : FaultV E w0 w v c a) (hx : Ext No w w') : FaultV E w0 w' v c a := by
  rcases h with h | ⟨h1, h2, f, h3, h4, h5⟩
  · exact .inl h
  · exact .inr ⟨h1, h2, f, h3, h4, hx.blk h5 id⟩
theorem FaultV.older {E : Nat → Addr} {w0 w1 w : World} {v : Value} {c : Nat} {a : Int} (h : FaultV E w1 w v c a) (hle : w0.heap.size ≤ w1.heap.size) : FaultV E w0 w v c a := by
  rcases h with h | ⟨h1, h2, f, h3, h4, h5⟩
  · exact .inl h
  · exact .inr ⟨h1, h2, f, h3, Nat.le_trans hle h4, h5⟩
theorem FaultV.ne {E : Nat → Addr} {w0 w : World} {v : Value} {c : Nat} {a : Int} (h : FaultV E w0 w v (c + 1) a) : ∃ t u, v = .iface t u := by
  rcases h with ⟨_, h⟩ | ⟨_, _, f, h, _⟩
  · exact ⟨_, _, h⟩
  · exact ⟨_, _, h⟩

section
variable {w : World} {G : RuleS → Prop} {a b : Option Addr} {n m c d : Nat} {xs ys : List RuleS}
theorem chk1_ok (r : RuleS) (w : World) : CallC Tryz.prog 41 ([Value.agg (encRule r).toArray] ++ []).toArray w fun v w' => v = .bool r.bad ∧ Ext No w w' := by
  refine fn_intro tabOk Tryz.func41 (by kernel_rfl) rfl Tryz.ntmps41 (Nat.le_of_ble_eq_true rfl) ?_
  have hS := St.start w No
  (conv => whnf)
  refine hS.new (fun b w' hb hS => ?_)
  replace hS : St w No w' [blk b 41 (encRule r)] := hS
  repeat' ((conv => whnf); first | refine RetC.mk ?_ | refine NzC.mk (by decide) ?_ | refine RngC.mk (by omega) (by omega) ?_ | refine IdxC.mk (by omega) (by omega) ?_ | refine hS.ld 0 rfl rfl ?_ | refine hS.laX 0 rfl rfl ?_ | refine brD (fun _ => ?_) (fun _ => ?_) | refine brND (fun _ => ?_) (fun _ => ?_) | refine brN (fun _ => ?_) (fun _ => ?_) | refine brI (fun _ => ?_) (fun _ => ?_))
  all_goals refine ⟨congrArg Value.bool (Bool.eq_iff_iff.2 ?_), hS.ext⟩
  all_goals simp [RuleS.bad]
  all_goals omega
theorem idxRule_ok (hx : Slc w 5 encRule G a n xs) :
    CallC Tryz.prog 40 #[.slice a n c, .func (.func 41) #[] #[]] w fun v w' => v = .int .i64 (badI xs 0) ∧ Ext No w w' := by
  have hm := hx.max
  have hl := hx.len
  refine fn_intro tabOk Tryz.func40 (by kernel_rfl) rfl Tryz.ntmps40 (Nat.le_of_ble_eq_true rfl) ?_
  have hS := St.start w No
  (conv => whnf)
  refine loopR tabOk (fun σ w' q => ∃ k : Nat, σ = [(8, .int .i64 (k : Int)), (7, .int .i64 n), (1, .func (.func 41) #[] #[]), (0, .slice a n c)] ∧ q = n - k ∧ k ≤ n ∧ St w No w' [] ∧ badI xs 0 = badI (xs.drop k) k)
    (σ' := [(8, .int .i64 ((0 : Nat) : Int)), (7, .int .i64 n), (1, .func (.func 41) #[] #[]), (0, .slice a n c)]) (n := n) ⟨rfl, rfl, rfl, rfl, trivial⟩ ⟨0, rfl, rfl, Nat.zero_le _, hS, by simp⟩ ?_
  clear hS
  rintro _ w1 q ⟨k, rfl, rfl, hk, hS, hi⟩
  (conv => whnf)
  refine brD (fun h3 => ?_) (fun h3 => ?_)
  · obtain ⟨b0, o0, x, hxk, hgx, rfl, _, hc⟩ := hx.at (k := k) (by omega)
    have hst := badI_step hxk
    (conv => whnf)
    refine IdxC.mk (by omega) (by omega) ?_
    (conv => whnf)
    refine hS.lar (l := encRule x) rfl hc id ?_
    (conv => whnf)
    refine (chk1_ok x _).mono ?_
    rintro v w' ⟨rfl, hx'⟩
    replace hS := hS.no hx'
    clear hx'
    (conv => whnf)
    refine brI (fun h4 => ?_) (fun h4 => ?_)
    · repeat' ((conv => whnf); first | refine RetC.mk ?_ | refine NzC.mk (by decide) ?_ | refine RngC.mk (by omega) (by omega) ?_ | refine IdxC.mk (by omega) (by omega) ?_ | refine brD (fun _ => ?_) (fun _ => ?_) | refine brND (fun _ => ?_) (fun _ => ?_) | refine brN (fun _ => ?_) (fun _ => ?_) | refine brI (fun _ => ?_) (fun _ => ?_))
      rw [hi, hst, h4]
      exact ⟨rfl, hS.ext⟩
    · (conv => whnf)
      refine RngC.mk (by omega) (by omega) ?_
      (conv => whnf)
      refine LoopE.mk ⟨_, [(8, .int .i64 ((k + 1 : Nat) : Int)), (7, _), (1, _), (0, _)], ?_, ⟨rfl, rfl, rfl, rfl, trivial⟩, ⟨k + 1, rfl, rfl, by omega, hS, by rw [hi, hst, h4]⟩⟩
      omega
  · repeat' ((conv => whnf); first | refine RetC.mk ?_ | refine NzC.mk (by decide) ?_ | refine RngC.mk (by omega) (by omega) ?_ | refine IdxC.mk (by omega) (by omega) ?_ | refine brD (fun _ => ?_) (fun _ => ?_) | refine brND (fun _ => ?_) (fun _ => ?_) | refine brN (fun _ => ?_) (fun _ => ?_) | refine brI (fun _ => ?_) (fun _ => ?_))
    have : k = n := by omega
    subst this
    rw [hi, List.drop_of_length_le (by omega)]
    exact ⟨rfl, hS.ext⟩
theorem rcheck_ok {E : Nat → Addr} {q : Nat} (hx : Slc w 5 encRule G a n xs) (hE : ErrC w E q [2]) :
    CallC Tryz.prog 24 #[.slice a n c] w fun v w' => FaultV E w w' v (faultL xs).1 (faultL xs).2 ∧ Ext No w w' := by
  have hl := hx.len
  have hge := badI_ge xs 0
  unfold faultL
  refine fn_intro tabOk Tryz.func24 (by kernel_rfl) rfl Tryz.ntmps24 (Nat.le_of_ble_eq_true rfl) ?_
  have hS := St.start w No
  (conv => whnf)
  refine brD (fun h1 => ?_) (fun h1 => ?_)
  · rw [if_pos (by omega)]
    repeat' ((conv => whnf); first | refine RetC.mk ?_ | refine NzC.mk (by decide) ?_ | refine RngC.mk (by omega) (by omega) ?_ | refine IdxC.mk (by omega) (by omega) ?_ | refine hS.ldr (hE.at_ 2 rfl) id ?_ | refine hS.ldrF (hE.at_ 2 rfl) id id ?_ | refine brD (fun _ => ?_) (fun _ => ?_) | refine brND (fun _ => ?_) (fun _ => ?_) | refine brN (fun _ => ?_) (fun _ => ?_) | refine brI (fun _ => ?_) (fun _ => ?_))
    exact ⟨.inl ⟨rfl, rfl⟩, hS.ext⟩
  rw [if_neg (by omega)]
  (conv => whnf)
  refine (idxRule_ok hx).mono ?_
  rintro v w' ⟨rfl, hx'⟩
  replace hS := hS.no hx'
  (conv => whnf)
  refine brD (fun h2 => ?_) (fun h2 => ?_)
  · rw [if_neg (by omega)]
    repeat' ((conv => whnf); first | refine RetC.mk ?_ | refine NzC.mk (by decide) ?_ | refine RngC.mk (by omega) (by omega) ?_ | refine IdxC.mk (by omega) (by omega) ?_ | refine hS.ldr (hE.at_ 2 rfl) id ?_ | refine hS.ldrF (hE.at_ 2 rfl) id id ?_ | refine hS.new (fun f w' hf hS => ?_) | refine brD (fun _ => ?_) (fun _ => ?_) | refine brND (fun _ => ?_) (fun _ => ?_) | refine brN (fun _ => ?_) (fun _ => ?_) | refine brI (fun _ => ?_) (fun _ => ?_))
    exact ⟨.inr ⟨by dsimp only; omega, by dsimp only; omega, f, rfl, hf, hS.blk 0 rfl⟩, hS.ext⟩
  · rw [if_pos (by omega)]
    repeat' ((conv => whnf); first | refine RetC.mk ?_ | refine NzC.mk (by decide) ?_ | refine RngC.mk (by omega) (by omega) ?_ | refine IdxC.mk (by omega) (by omega) ?_ | refine brD (fun _ => ?_) (fun _ => ?_) | refine brND (fun _ => ?_) (fun _ => ?_) | refine brN (fun _ => ?_) (fun _ => ?_) | refine brI (fun _ => ?_) (fun _ => ?_))
    exact ⟨.inl ⟨rfl, rfl⟩, hS.ext⟩
end
end Go.Proofs.YtgcbcagaibecbaaGreatDoor

namespace Go.Proofs.YtgcbcagaibecbaaGreatDoor
set_option maxRecDepth 20000
open Go Ev
variable [Go.Proofs.YtgcbcagaibecbaaGreatDoor.Gap.Leaps]

def encF (c : Nat) (a : Int) : List Value := [.int .i64 (c : Int), .int .i64 a]
section
variable {w : World} {G G' : RuleS → Prop} {a b : Option Addr} {n m c d : Nat} {xs ys : List RuleS}
theorem bare_ok (k : Nat) (w : World) : CallC Tryz.prog 15 #[.int .i64 (k : Int)] w fun v w' => v = .agg (encF k (-1)).toArray ∧ Ext No w w' := by
  refine fn_intro tabOk Tryz.func15 (by kernel_rfl) rfl Tryz.ntmps15 (Nat.le_of_ble_eq_true rfl) ?_
  have hS := St.start w No
  repeat' ((conv => whnf); first | refine RetC.mk ?_ | refine NzC.mk (by decide) ?_ | refine RngC.mk (by omega) (by omega) ?_ | refine IdxC.mk (by omega) (by omega) ?_ | refine hS.new (fun b w' hb hS => ?_) | refine hS.st 0 rfl (Nat.le_of_ble_eq_true rfl) rfl (fun w' hS => ?_) | refine hS.laX 0 rfl rfl ?_ | refine brD (fun _ => ?_) (fun _ => ?_) | refine brND (fun _ => ?_) (fun _ => ?_) | refine brN (fun _ => ?_) (fun _ => ?_) | refine brI (fun _ => ?_) (fun _ => ?_))
  exact ⟨rfl, hS.ext⟩
theorem fine_ok (w : World) : CallC Tryz.prog 16 #[] w fun v w' => v = .agg (encF 0 (-1)).toArray ∧ Ext No w w' := by
  refine fn_intro tabOk Tryz.func16 (by kernel_rfl) rfl Tryz.ntmps16 (Nat.le_of_ble_eq_true rfl) ?_
  have hS := St.start w No
  repeat' ((conv => whnf); first | refine RetC.mk ?_ | refine NzC.mk (by decide) ?_ | refine RngC.mk (by omega) (by omega) ?_ | refine IdxC.mk (by omega) (by omega) ?_ | refine hS.new (fun b w' hb hS => ?_) | refine hS.st 0 rfl (Nat.le_of_ble_eq_true rfl) rfl (fun w' hS => ?_) | refine hS.laX 0 rfl rfl ?_ | refine brD (fun _ => ?_) (fun _ => ?_) | refine brND (fun _ => ?_) (fun _ => ?_) | refine brN (fun _ => ?_) (fun _ => ?_) | refine brI (fun _ => ?_) (fun _ => ?_))
  exact ⟨rfl, hS.ext⟩
theorem rulesFault_ok (hx : Slc w 5 encRule G a n xs) : CallC Tryz.prog 19 #[.slice a n c] w fun v w' => v = .agg (encF (faultL xs).1 (faultL xs).2).toArray ∧ Ext No w w' := by
  have hm := hx.max
  have hl := hx.len
  have hge := badI_ge xs 0
  unfold faultL
  refine fn_intro tabOk Tryz.func19 (by kernel_rfl) rfl Tryz.ntmps19 (Nat.le_of_ble_eq_true rfl) ?_
  have hS := St.start w No
  (conv => whnf)
  refine hS.new (fun bf w' hbf hS => ?_)
  (conv => whnf)
  refine brD (fun h1 => ?_) (fun h1 => ?_)
  · rw [if_pos (by omega)]
    repeat' ((conv => whnf); first | refine RetC.mk ?_ | refine NzC.mk (by decide) ?_ | refine RngC.mk (by omega) (by omega) ?_ | refine IdxC.mk (by omega) (by omega) ?_ | (refine (bare_ok 2 _).mono ?_; rintro v w' ⟨rfl, hx'⟩; replace hS := hS.no hx'; clear hx') | refine hS.st 0 rfl (Nat.le_of_ble_eq_true rfl) rfl (fun w' hS => ?_) | refine hS.laX 0 rfl rfl ?_ | refine brD (fun _ => ?_) (fun _ => ?_) | refine brND (fun _ => ?_) (fun _ => ?_) | refine brN (fun _ => ?_) (fun _ => ?_) | refine brI (fun _ => ?_) (fun _ => ?_))
    exact ⟨rfl, hS.ext⟩
  rw [if_neg (by omega)]
  (conv => whnf)
  refine loopR tabOk (fun σ w' q => ∃ k : Nat, σ = [(3, .int .i64 (k : Int)), (2, .pointer (some ⟨bf, 0, none⟩)), (0, .slice a n c)] ∧ q = n - k ∧ k ≤ n ∧ St w No w' [blk bf 30 [.int .i64 0, .int .i64 0]] ∧ badI xs 0 = badI (xs.drop k) k)
    (σ' := [(3, .int .i64 ((0 : Nat) : Int)), (2, .pointer (some ⟨bf, 0, none⟩)), (0, .slice a n c)]) (n := n) ⟨rfl, rfl, rfl, trivial⟩ ⟨0, rfl, rfl, Nat.zero_le _, hS, by simp⟩ ?_
  clear hS
  rintro _ w1 q ⟨k, rfl, rfl, hk, hS, hi⟩
  (conv => whnf)
  refine brD (fun h3 => ?_) (fun h3 => ?_)
  · obtain ⟨b0, o0, x, hxk, hgx, rfl, _, hc⟩ := hx.at (k := k) (by omega)
    have hst := badI_step hxk
    (conv => whnf)
    refine IdxC.mk (by omega) (by omega) ?_
    (conv => whnf)
    refine hS.lar (l := encRule x) rfl hc id ?_
    (conv => whnf)
    refine hS.new (fun bx w' hb hS => ?_)
    (conv => whnf)
    refine hS.st 1 rfl (Nat.le_of_ble_eq_true rfl) rfl (fun w' hS => ?_)
    replace hS : St w No w' [blk bf 30 [.int .i64 0, .int .i64 0], blk bx 41 (encRule x)] := hS
    have yes : x.bad = true → badI xs 0 = k := fun h => by rw [hi, hst, h]
    have no : x.bad = false → badI xs 0 = badI (xs.drop (k + 1)) (k + 1) := fun h => by rw [hi, hst, h]
    clear hi hst
    repeat' ((conv => whnf); first | refine RetC.mk ?_ | refine NzC.mk (by decide) ?_ | refine RngC.mk (by omega) (by omega) ?_ | refine IdxC.mk (by omega) (by omega) ?_ | refine hS.ld 0 rfl rfl ?_ | refine hS.ld 1 rfl rfl ?_ | refine hS.laX 0 rfl rfl ?_ | refine hS.laX 1 rfl rfl ?_ | refine hS.st 0 rfl (Nat.le_of_ble_eq_true rfl) rfl (fun w' hS => ?_) | refine brD (fun _ => ?_) (fun _ => ?_) | refine brND (fun _ => ?_) (fun _ => ?_) | refine brN (fun _ => ?_) (fun _ => ?_) | refine brI (fun _ => ?_) (fun _ => ?_))
    all_goals first
      | (have hb : x.bad = true := by { clear hS yes no; simp_all [RuleS.bad] <;> intros <;> omega }; rw [if_neg (by have := yes hb; omega), yes hb]; exact ⟨rfl, hS.ext⟩)
      | (replace no := no (by clear hS yes no; simp_all [RuleS.bad] <;> intros <;> omega); clear yes; refine LoopE.mk ⟨_, [(3, .int .i64 ((k + 1 : Nat) : Int)), (2, _), (0, _)], ?_, ⟨rfl, rfl, rfl, trivial⟩, ⟨k + 1, rfl, rfl, by omega, hS.keep 1, no⟩⟩; omega)
  · have : k = n := by omega
    subst this
    rw [hi, List.drop_of_length_le (by omega), if_pos (by simp [badI])]
    repeat' ((conv => whnf); first | refine RetC.mk ?_ | refine NzC.mk (by decide) ?_ | refine RngC.mk (by omega) (by omega) ?_ | refine IdxC.mk (by omega) (by omega) ?_ | (refine (fine_ok _).mono ?_; rintro v w' ⟨rfl, hx'⟩; replace hS := hS.no hx'; clear hx') | refine hS.st 0 rfl (Nat.le_of_ble_eq_true rfl) rfl (fun w' hS => ?_) | refine hS.laX 0 rfl rfl ?_ | refine brD (fun _ => ?_) (fun _ => ?_) | refine brND (fun _ => ?_) (fun _ => ?_) | refine brN (fun _ => ?_) (fun _ => ?_) | refine brI (fun _ => ?_) (fun _ => ?_))
    exact ⟨rfl, hS.ext⟩
end
end Go.Proofs.YtgcbcagaibecbaaGreatDoor
