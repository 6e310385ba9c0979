/-
  Texts of this claim, joined: PoolX, PoolY, PoolXA, EvG, EvI, LawA, EvJ, EvK, EvH, EvM, EvN, EvO, EvP, EvQ, GapE, Err, PoolZ.
-/
import Derived.Test.YtgcbcagaibecbaaGreatDoorSideReadsD
import Derived.Recover
import Derived.Conc.WgWords
import Derived.Maps.AppendAt
import Derived.Great.BuildSlice
import Derived.Laws.StructEq
import Derived.Laws.Tables
import Derived.ProofKit
import Derived.Below
import Derived.Carry
import Derived.Deep.Slices
import Derived.LaidLaws
import Derived.LaidHandle
import Derived.Stop.LaidErr
import Derived.Stop.Joined
import Derived.OpenShut
import Derived.ShutString
import Derived.Deep.Upon
import Derived.Laws.Strings
import Derived.Laws.Strings2
import Derived.Laws.Strings3
import Derived.Laws.Concat
import Derived.Laws.BytesArg
import Derived.Laws.BitsAllLaws
import Derived.Laws.OwnMore
import Derived.Lib.AppendZerosOnto
import Derived.Laws.Slices
import Derived.LaidSub
import Derived.Stop.LaidTwo
set_option linter.unusedSectionVars false
set_option linter.unusedSimpArgs false
set_option linter.unusedVariables false

namespace Go.Proofs.YtgcbcagaibecbaaGreatDoor.Pool
set_option maxRecDepth 20000
open Go Go.Conc Gap Go.RowKit Go.Conc.Lib Go.ConcR.Gen Go.ConcN.Gen
open Go.ConcN (upd upd_same upd_ne WgLive RW AtK1)
open Go.ConcR (WgAt stA smA KK Payload DC0 mk rd wr)

def regOf : Code → Nat → Option (Array Oper)
  | .region i ops _, n => if i = n then some ops else none
  | .seq a b, n => (regOf a n).orElse fun _ => regOf b n
  | .cond _ a b, n => (regOf a n).orElse fun _ => regOf b n
  | .block _ c, n => regOf c n
  | .loop c, n => regOf c n
  | _, _ => none
def regs (f : Func) (n : Nat) : Array Oper := (f.body.bind (regOf · n)).getD #[]
def blockOf : Code → Nat → Option Code
  | .block i c, n => if i = n then some c else blockOf c n
  | .seq a b, n => (blockOf a n).orElse fun _ => blockOf b n
  | .cond _ a b, n => (blockOf a n).orElse fun _ => blockOf b n
  | .loop c, n => blockOf c n
  | _, _ => none
def round (f : Func) (n : Nat) : Code := match f.body.bind (blockOf · n) with
  | some (.loop c) => c
  | some c => c
  | none => .skip
def second : Code → Code
  | .seq _ y => y
  | c => c

noncomputable abbrev fnA : Func := Tryz.f12
noncomputable abbrev fnA1 : Func := Tryz.f26
noncomputable abbrev fnG : Func := Tryz.f25
noncomputable abbrev fnG1 : Func := Tryz.f43
noncomputable abbrev fnG11 : Func := Tryz.f44
abbrev iA1 : Nat := 26
abbrev iG1 : Nat := 43
abbrev iG11 : Nat := 44

structure Job where
  Z : Nat → Prop
  ct : Nat
  cb : Nat
  Wg : Nat
  bt : Nat
  bh : Nat
  bb : Nat
  many : Nat
  fh : FuncId
  c0 : Value
  cs : List Value
  W0 : World

def Job.how (J : Job) : Value := .func (.func J.fh) #[] (J.c0 :: J.cs).toArray
section
variable (J : Job)
def capsA : Array Value := #[.pointer (some ⟨J.bt, 0, none⟩), .pointer (some ⟨J.bh, 0, none⟩), .pointer (some ⟨J.bb, 0, none⟩)]
noncomputable def bot : Frame := { (default : Frame) with fn := Tryz.prog.funcs.size, defers := [], mode := .panicking [goexitEntry] }
def dG1 (C : Nat) : Deferred := { target := .fn (.func iG1) #[.pointer (some ⟨C, 0, none⟩), .pointer (some ⟨C + 1, 0, none⟩)], args := #[] }
def dG11 (C : Nat) : Deferred := { target := .fn (.func iG11) #[.pointer (some ⟨C, 0, none⟩)], args := #[] }
def tG1 (C : Nat) : Array Value := #[.pointer (some ⟨C, 0, none⟩), .pointer (some ⟨C + 1, 0, none⟩), .func (.func iG11) #[] #[.pointer (some ⟨C, 0, none⟩)], .func (.func iA1) #[] (capsA J), undef]
noncomputable def frG (C : Nat) : Frame := (baseD iG1).at ⟨tG1 J C, [dG11 C]⟩ [.inRegion (regs fnG1 1) [1]]
noncomputable def atRecv (T : Array Value) : Frame := (base iA1).at ⟨T, []⟩ [.inRegion (regs fnA1 1) [0, 1], .code (second (round fnA1 0)), .inLoop (round fnA1 0), .inBlock 0]
noncomputable def atSend (T : Array Value) : Frame := (base iA1).at ⟨T, []⟩ [.inRegion (regs fnA1 4) [5], .inBlock 1, .inLoop (round fnA1 0), .inBlock 0]

def Seen (w : World) : Prop := ∀ b o v, J.Z b → J.W0.cell? ⟨b, o, none⟩ = some v → w.cell? ⟨b, o, none⟩ = some v
structure WM (C : Nat) (w : World) : Prop where
  wg : w.cell? ⟨C, 0, none⟩ = some (.pointer (some ⟨J.Wg, 0, none⟩))
  fn : w.cell? ⟨C + 1, 0, none⟩ = some (.func (.func iA1) #[] (capsA J))
  seen : Seen J w
  low : J.W0.heap.size ≤ C
structure WF (C : Nat) (w : World) : Prop where
  m : WM J C w
  live : WgLive 74 J.Wg w
structure TF (T : Array Value) : Prop where
  size : T.size = 21
  t0 : T[0]? = some (.pointer (some ⟨J.bt, 0, none⟩))
  t1 : T[1]? = some (.pointer (some ⟨J.bh, 0, none⟩))
  t2 : T[2]? = some (.pointer (some ⟨J.bb, 0, none⟩))
  t6 : T[6]? = some (.chan (some J.ct))
structure JobOk : Prop where
  zt : J.Z J.bt
  zh : J.Z J.bh
  zb : J.Z J.bb
  zlow : ∀ b, J.Z b → b < J.W0.heap.size
  todo : J.W0.cell? ⟨J.bt, 0, none⟩ = some (.chan (some J.ct))
  how : J.W0.cell? ⟨J.bh, 0, none⟩ = some J.how
  back : J.W0.cell? ⟨J.bb, 0, none⟩ = some (.chan (some J.cb))
end

def ROJ (J : Job) (C : Nat) (w w1 : World) : Prop := (∀ b, Mine C b ∨ J.Z b → w1.heap[b]? = w.heap[b]?) ∧ (WgLive 74 J.Wg w → WgLive 74 J.Wg w1)
def DJ (J : Job) (C : Nat) (w w' : World) (es : Array Event) : Prop := w' = w ∧ ∀ e ∈ es, EvOk (Mine C) J.Z e

section
variable {J : Job} {C n : Nat} {w w1 : World} {R : World → World → Prop} {g : Goroutine} {Stop : Goroutine → World → Prop}
theorem cell_stands {b o : Nat} {v : Value} (h : w.cell? ⟨b, o, none⟩ = some v) (hb : w1.heap[b]? = w.heap[b]?) : w1.cell? ⟨b, o, none⟩ = some v := by
  rw [← h]; simp [World.cell?, hb]
theorem WM.keep (h : WM J C w) (r : ∀ b, Mine C b ∨ J.Z b → w1.heap[b]? = w.heap[b]?) : WM J C w1 :=
  ⟨cell_stands h.wg (r _ (.inl (.inl rfl))), cell_stands h.fn (r _ (.inl (.inr rfl))), fun b o v hb hv => cell_stands (h.seen b o v hb hv) (r b (.inr hb)), h.low⟩
theorem WF.rely (_ : JobOk J) (h : WF J C w) (r : ROJ J C w w1) : WF J C w1 := ⟨h.m.keep r.1, r.2 h.live⟩
theorem WF.todo (h : WF J C w) (ok : JobOk J) : w.cell? ⟨J.bt, 0, none⟩ = some (.chan (some J.ct)) := h.m.seen _ _ _ ok.zt ok.todo
theorem dj_nil (w : World) : DJ J C w w #[] := ⟨rfl, by simp⟩
theorem dj_read {b o : Nat} (hb : Mine C b ∨ J.Z b) {es : Array Event} (h : ∀ e ∈ es, e = ⟨.cell ⟨b, o, none⟩, false, false⟩) : DJ J C w w es := ⟨rfl, fun e he => by
  rw [h e he]
  exact ⟨rfl, hb.imp id fun x => ⟨x, rfl⟩⟩⟩
theorem dj_none {es : Array Event} (h : ∀ e ∈ es, False) : DJ J C w w es := ⟨rfl, fun e he => (h e he).elim⟩
theorem array21 (T : Array Value) (h : T.size = 21) : ∃ v0 v1 v2 v3 v4 v5 v6 v7 v8 v9 v10 v11 v12 v13 v14 v15 v16 v17 v18 v19 v20 : Value, T = #[v0, v1, v2, v3, v4, v5, v6, v7, v8, v9, v10, v11, v12, v13, v14, v15, v16, v17, v18, v19, v20] := by
  obtain ⟨l⟩ := T
  simp only [List.size_toArray] at h
  iterate 21
    obtain _ | ⟨_, l⟩ := l
    · simp at h
  obtain _ | ⟨_, l⟩ := l
  · exact ⟨_, _, _, _, _, _, _, _, _, _, _, _, _, _, _, _, _, _, _, _, _, rfl⟩
  · simp at h

theorem born_step (C : Nat) (w : World) : stepG Tryz.prog false (Go.Conc.born Tryz.prog (dG1 C)) w =
    .go (G ((baseD iG1).at ⟨#[.pointer (some ⟨C, 0, none⟩), .pointer (some ⟨C + 1, 0, none⟩), undef, undef, undef], []⟩ [.code (fnG1.body.getD .skip)]) [bot]) w #[] := by
  simp [Go.Conc.born, dG1, stepG, unwind, callDeferred, invoke, callFunc, Tryz.func43, fnG1, Tryz.f43, seen, GStep.after, G, Frame.enter, Frame.at, baseD, bot]

theorem stepG_deferV {P : Program} {main : Bool} {b : Frame} {a : Act} {k : List Item} {cs : List Frame} {ops : Array Oper} {i : Nat} {rest : List Nat} {o : Oper} {f : FuncId} {x : Operand} {caps : Array Value} {ats : Array TypeId} (ho : ops[i]? = some o) (hw : Region.wanted o (yielded ops a.tmps) = true) (hk : b.kind ≠ .early)
    (hop : o.op = .defer { callee := .value x, args := #[], argTypes := ats }) (hx : a.eval x = .func (.func f) #[] caps) :
    stepG P main (G (b.at a (.inRegion ops (i :: rest) :: k)) cs) w = .go (G (b.at (Act.put ⟨a.tmps, { target := .fn (.func f) caps, args := #[] } :: a.defers⟩ o.dst undef) (.inRegion ops rest :: k)) cs) w #[] := by
  have hr : (execOp a.eval o).run P w = .ok (.defer { target := .fn (.func f) caps, args := #[] }) w := by
    unfold execOp
    simp [hop, resolve, Deferred.ofValue, hx]
  have he : (execOp a.eval o).events P w #[] = #[] := by
    unfold execOp
    simp [hop, resolve, Deferred.ofValue, hx]
  have hfin : (b.at ⟨a.tmps, { target := .fn (.func f) caps, args := #[] } :: a.defers⟩ (.inRegion ops (i :: rest) :: k)).finish undef = b.at (Act.put ⟨a.tmps, { target := .fn (.func f) caps, args := #[] } :: a.defers⟩ o.dst undef) (.inRegion ops rest :: k) := by rw [Frame.finish_at, ho]; rfl
  have hk' : (b.kind == CallKind.early) = false := by simpa using hk
  rw [stepG_oper ho hw, ← hfin]
  simp [stepG.apply, hr, he, G, Frame.at, hk', GStep.after, seen_none]
theorem goes_callV {P : Program} {main : Bool} {b : Frame} {a : Act} {k : List Item} {cs : List Frame} {ops : Array Oper} {i : Nat} {rest : List Nat} {o : Oper} {f : FuncId} {fn : Func} {c : Code} {x : Operand} {caps : Array Value} {ats : Array TypeId} {K : Goroutine → World → Array Event → Prop} (ho : ops[i]? = some o) (hw : Region.wanted o (yielded ops a.tmps) = true) (hk : b.kind ≠ .early)
    (hop : o.op = .call { callee := .value x, args := #[], argTypes := ats }) (hx : a.eval x = .func (.func f) #[] caps) (hf : P.funcs[f]? = some fn) (hname : (fn.name == "runtime.NumGoroutine") = false) (hb : fn.body = some c)
    (h : K (G ((base f).at { tmps := caps ++ Array.replicate (fn.ntmps - caps.size) undef, defers := [] } [.code c]) (b.at a (.inRegion ops (i :: rest) :: k) :: cs)) w #[]) :
    (stepG P main (G (b.at a (.inRegion ops (i :: rest) :: k)) cs) w).goes K := by
  have h1 : ¬ fn.name = "runtime.NumGoroutine" := by simpa using hname
  have h2 : ¬ fn.body = none := by simp [hb]
  have hr : (execOp a.eval o).run P w = .ok (.enter f caps) w := by
    unfold execOp
    simp [hop, resolve, Deferred.ofValue, invoke, callFunc, hx, hf, h1, h2]
  have he : listed P b.fn a o w = #[] := by
    unfold listed execOp
    simp [hop, resolve, Deferred.ofValue, invoke, callFunc, hx, hf, h1, h2, seen_none]
  rw [stepG_enter ho hw hk hr, enter_at _ hf hb, he]
  exact h
def ARJ (J : Job) (C : Nat) (g : Goroutine) (w : World) : Prop := ∃ T : Array Value, TF J T ∧ g = G (atRecv T) [frG J C, bot] ∧ WF J C w
set_option maxRecDepth 100000 in
set_option maxHeartbeats 4000000 in
theorem newborn (ok : JobOk J) (hF : WF J C w) : Goes Tryz.prog false (ROJ J C) (DJ J C) (ARJ J C) 30 (Go.Conc.born Tryz.prog (dG1 C)) w := by
  refine Goes.step rfl (fun _ h₁ => ?_)
  replace hF := hF.rely ok h₁
  clear h₁
  rw [born_step]
  simp only [goes_go]
  refine ⟨dj_nil _, ?_⟩
  simp only [fnG1, Tryz.f43, Option.getD_some]
  refine Goes.step rfl (fun _ h₁ => ?_)
  replace hF := hF.rely ok h₁
  clear h₁
  rw [stepG_seq]
  simp only [goes_go]
  refine ⟨dj_nil _, ?_⟩
  refine Goes.step rfl (fun _ h₁ => ?_)
  replace hF := hF.rely ok h₁
  clear h₁
  rw [stepG_region]
  simp only [goes_go, List.size_toArray, List.length_cons, List.length_nil, Nat.reduceAdd, Nat.zero_add, List.range, List.range.loop]
  refine ⟨dj_nil _, ?_⟩
  refine Goes.step rfl (fun _ h₁ => ?_)
  replace hF := hF.rely ok h₁
  clear h₁
  refine goes_oper_k rfl rfl (by k_ne) (fun K hK => ?_)
  go_simp
  refine hK _ _ ⟨?_, ?_⟩
  · refine dj_none ?_
    intro e he
    have hm := mem_listed he
    simp [go_sem, *] at hm
  clear hK K
  refine Goes.step rfl (fun _ h₁ => ?_)
  replace hF := hF.rely ok h₁
  clear h₁
  rw [stepG_deferV rfl rfl (by k_ne) rfl (by rfl)]
  simp only [goes_go]
  refine ⟨dj_nil _, ?_⟩
  refine Goes.step rfl (fun _ h₁ => ?_)
  replace hF := hF.rely ok h₁
  clear h₁
  rw [stepG_region_end]
  simp only [goes_go]
  refine ⟨dj_nil _, ?_⟩
  refine Goes.step rfl (fun _ h₁ => ?_)
  replace hF := hF.rely ok h₁
  clear h₁
  rw [stepG_region]
  simp only [goes_go, List.size_toArray, List.length_cons, List.length_nil, Nat.reduceAdd, Nat.zero_add, List.range, List.range.loop]
  refine ⟨dj_nil _, ?_⟩
  refine Goes.step rfl (fun _ h₁ => ?_)
  replace hF := hF.rely ok h₁
  clear h₁
  refine goes_oper_k rfl rfl (by k_ne) (fun K hK => ?_)
  have hld := hF.m.fn
  go_simp
  refine hK _ _ ⟨?_, ?_⟩
  · refine dj_read (b := C + 1) (.inl (.inr rfl)) (o := 0) ?_
    intro e he
    have hm := mem_listed he
    simp [go_sem, *] at hm
    exact hm
  clear hK K hld
  refine Goes.step rfl (fun _ h₁ => ?_)
  replace hF := hF.rely ok h₁
  clear h₁
  refine goes_callV rfl rfl (by k_ne) rfl (by rfl) Tryz.func26 (by kernel_rfl) rfl ⟨dj_nil _, ?_⟩
  simp only [Tryz.f26, capsA]
  walk_nrm
  refine Goes.step rfl (fun _ h₁ => ?_)
  replace hF := hF.rely ok h₁
  clear h₁
  rw [stepG_seq]
  simp only [goes_go]
  refine ⟨dj_nil _, ?_⟩
  refine Goes.step rfl (fun _ h₁ => ?_)
  replace hF := hF.rely ok h₁
  clear h₁
  rw [stepG_region]
  simp only [goes_go, List.size_toArray, List.length_cons, List.length_nil, Nat.reduceAdd, Nat.zero_add, List.range, List.range.loop]
  refine ⟨dj_nil _, ?_⟩
  refine Goes.step rfl (fun _ h₁ => ?_)
  replace hF := hF.rely ok h₁
  clear h₁
  refine goes_oper_k rfl rfl (by k_ne) (fun K hK => ?_)
  have hld := hF.todo ok
  go_simp
  refine hK _ _ ⟨?_, ?_⟩
  · refine dj_read (b := J.bt) (.inr ok.zt) (o := 0) ?_
    intro e he
    have hm := mem_listed he
    simp [go_sem, *] at hm
    exact hm
  clear hK K hld
  refine Goes.step rfl (fun _ h₁ => ?_)
  replace hF := hF.rely ok h₁
  clear h₁
  rw [stepG_region_end]
  simp only [goes_go]
  refine ⟨dj_nil _, ?_⟩
  refine Goes.step rfl (fun _ h₁ => ?_)
  replace hF := hF.rely ok h₁
  clear h₁
  rw [stepG_block]
  simp only [goes_go]
  refine ⟨dj_nil _, ?_⟩
  refine Goes.step rfl (fun _ h₁ => ?_)
  replace hF := hF.rely ok h₁
  clear h₁
  rw [stepG_loop]
  simp only [goes_go]
  refine ⟨dj_nil _, ?_⟩
  refine Goes.step rfl (fun _ h₁ => ?_)
  replace hF := hF.rely ok h₁
  clear h₁
  rw [stepG_seq]
  simp only [goes_go]
  refine ⟨dj_nil _, ?_⟩
  refine Goes.step rfl (fun _ h₁ => ?_)
  replace hF := hF.rely ok h₁
  clear h₁
  rw [stepG_region]
  simp only [goes_go, List.size_toArray, List.length_cons, List.length_nil, Nat.reduceAdd, Nat.zero_add, List.range, List.range.loop]
  refine ⟨dj_nil _, ?_⟩
  refine Goes.stop (fun w₁ h₁ => ?_)
  refine ⟨_, ?_, rfl, hF.rely ok h₁⟩
  exact ⟨rfl, rfl, rfl, rfl, rfl⟩
end
end Go.Proofs.YtgcbcagaibecbaaGreatDoor.Pool

namespace Go.Proofs.YtgcbcagaibecbaaGreatDoor.Pool
set_option maxRecDepth 20000
open Go Go.Conc Gap Go.RowKit Go.Conc.Lib Go.ConcR.Gen Go.ConcN.Gen
open Go.ConcN (upd upd_same upd_ne WgLive RW AtK1)
open Go.ConcR (WgAt stA smA KK Payload DC0 mk rd wr)

section
variable {J : Job} {C n : Nat} {w w1 : World} {g : Goroutine}
theorem sent (ok : JobOk J) {T : Array Value} (hT : TF J T) (hF : WF J C w) : Goes Tryz.prog false (ROJ J C) (DJ J C) (ARJ J C) 6 (Go.Conc.served (G (atSend T) [frG J C, bot]) undef) w := by
  have e : Go.Conc.served (G (atSend T) [frG J C, bot]) undef = G ((base iA1).at ⟨T, []⟩ [.inRegion (regs fnA1 4) [], .inBlock 1, .inLoop (round fnA1 0), .inBlock 0]) [frG J C, bot] := by
    simp only [Go.Conc.served, G, atSend, Frame.finish_at]
    rfl
  rw [e]
  refine Goes.step rfl (fun _ h₁ => ?_)
  replace hF := hF.rely ok h₁
  clear h₁
  rw [stepG_region_end]
  simp only [goes_go]
  refine ⟨dj_nil _, ?_⟩
  refine Goes.step rfl (fun _ h₁ => ?_)
  replace hF := hF.rely ok h₁
  clear h₁
  rw [stepG_inBlock]
  simp only [goes_go]
  refine ⟨dj_nil _, ?_⟩
  refine Goes.step rfl (fun _ h₁ => ?_)
  replace hF := hF.rely ok h₁
  clear h₁
  rw [stepG_inLoop]
  simp only [goes_go]
  refine ⟨dj_nil _, ?_⟩
  conv => arg 7; rw [show (round fnA1 0) = .seq (.region 1 (regs fnA1 1) false) (second (round fnA1 0)) from rfl]
  refine Goes.step rfl (fun _ h₁ => ?_)
  replace hF := hF.rely ok h₁
  clear h₁
  rw [stepG_seq]
  simp only [goes_go]
  refine ⟨dj_nil _, ?_⟩
  refine Goes.step rfl (fun _ h₁ => ?_)
  replace hF := hF.rely ok h₁
  clear h₁
  rw [stepG_region]
  simp only [goes_go]
  refine ⟨dj_nil _, ?_⟩
  exact Goes.stop fun w₁ h₁ => ⟨T, hT, rfl, hF.rely ok h₁⟩

theorem stepG_unwind_enterV {P : Program} {main : Bool} {b : Frame} {a : Act} {todo : List Item} {cs : List Frame} {f : FuncId} {fn : Func} {caps : Array Value} {ds : List Deferred} {c : Code} (hd : a.defers = { target := .fn (.func f) caps, args := #[] } :: ds) (hf : P.funcs[f]? = some fn) (hname : (fn.name == "runtime.NumGoroutine") = false) (hb : fn.body = some c) :
    stepG P main (G { b.at a todo with mode := .returning } cs) w =
      .go (G ((baseD f).at { tmps := caps ++ Array.replicate (fn.ntmps - caps.size) undef, defers := [] } [.code c]) ({ b.at ⟨a.tmps, ds⟩ todo with mode := .returning } :: cs)) w #[] := by
  have h1 : ¬ fn.name = "runtime.NumGoroutine" := by simpa using hname
  rw [← enter_atD caps hf hb]
  simp [G, stepG, unwind, callDeferred, Frame.at, hd, invoke, callFunc, hf, h1, hb, GStep.after, seen_none]
theorem stepG_recover {P : Program} {main : Bool} {f : FuncId} {a : Act} {k : List Item} {c : Frame} {cs : List Frame} {ops : Array Oper} {i : Nat} {rest : List Nat} {o : Oper} {ats : Array TypeId} (ho : ops[i]? = some o) (hw : Region.wanted o (yielded ops a.tmps) = true)
    (hop : o.op = .call { callee := .builtin .recover, args := #[], argTypes := ats }) (hc : c.mode = .returning) :
    stepG P main (G ((baseD f).at a (.inRegion ops (i :: rest) :: k)) (c :: cs)) w = .go (G ((baseD f).at (a.put o.dst .nilIface) (.inRegion ops rest :: k)) (c :: cs)) w #[] := by
  have hr : (execOp a.eval o).run P w = .ok .recover w := by
    unfold execOp
    simp [hop, resolve, invoke, builtin]
  have he : (execOp a.eval o).events P w #[] = #[] := by
    unfold execOp
    simp [hop, resolve, invoke, builtin]
  have hfin : ((baseD f).at a (.inRegion ops (i :: rest) :: k)).finish .nilIface = (baseD f).at (a.put o.dst .nilIface) (.inRegion ops rest :: k) := by rw [Frame.finish_at, ho]; rfl
  rw [stepG_oper ho hw, ← hfin]
  simp [stepG.apply, hr, he, G, Frame.at, baseD, GStep.after, seen_none, tryRecover, hc]

theorem goes_val {P : Program} {main : Bool} {b : Frame} {a : Act} {k : List Item} {cs : List Frame} {ops : Array Oper} {i : Nat} {rest : List Nat} {o : Oper} {K : Goroutine → World → Array Event → Prop} (v : Value) (ho : ops[i]? = some o) (hw : Region.wanted o (yielded ops a.tmps) = true) (hk : b.kind ≠ .early)
    (hr : (execOp a.eval o).run P w = .ok (.value v) w) (he : (execOp a.eval o).events P w #[] = #[]) (h : K (G (b.at (a.put o.dst v) (.inRegion ops rest :: k)) cs) w #[]) : (stepG P main (G (b.at a (.inRegion ops (i :: rest) :: k)) cs) w).goes K := by
  have hl : listed P b.fn a o w = #[] := by unfold listed; rw [he]; exact seen_none P _
  rw [stepG_value ho hw hk hr, hl]
  exact h
structure WQ (J : Job) (C : Nat) (w : World) : Prop where
  wg : w.cell? ⟨C, 0, none⟩ = some (.pointer (some ⟨J.Wg, 0, none⟩))
  live : WgLive 74 J.Wg w
theorem WQ.rely (h : WQ J C w) (r : RW 74 J.Wg C 1 0 0 w w1) : WQ J C w1 := ⟨r.cell.trans h.wg, r.live h.live⟩
theorem goes_weak {P : Program} {main : Bool} {R : World → World → Prop} {D D' : World → World → Array Event → Prop} {Stop : Goroutine → World → Prop} (hD : ∀ w w' es, D w w' es → D' w w' es) : ∀ {n : Nat} {g : Goroutine} {w : World}, Goes P main R D Stop n g w → Goes P main R D' Stop n g w
  | 0, _, _, h => h
  | n + 1, g, w, h => h.imp id fun ⟨hs, h⟩ => ⟨hs, fun w1 h1 => by
    obtain ⟨g', w', es, e, hd, hg⟩ := goes_elim (h w1 h1)
    rw [e]
    exact ⟨hD _ _ _ hd, goes_weak hD hg⟩⟩
theorem dj_of_dc0 (w w' : World) (es : Array Event) (h : DC0 w w' es) : DJ J C w w' es := by
  obtain ⟨rfl, rfl⟩ := h
  exact dj_nil _

theorem quitsTail (a : Act) (ha : a.defers = []) (T : Array Value) : QuitsD Tryz.prog 5 0 (G ((baseD iG11).at a [.inRegion (regs fnG11 3) []]) [{ (baseD iG1).at ⟨T, []⟩ [] with mode := .returning }, bot]) := by
  refine QuitsD.ctl rfl (fun w => stepG_region_end) ?_
  refine QuitsD.ctl rfl (fun w => stepG_end) ?_
  refine QuitsD.leaveD rfl ha Tryz.func44 rfl rfl ?_
  refine QuitsD.ctl (g' := G bot []) rfl (fun w => ?_) ?_
  · simp [G, stepG, unwind, doReturn, results, Frame.at, baseD, bot, Tryz.func43, Tryz.f43, seen, GStep.after, goexitEntry]
  refine QuitsD.ctl (g' := { G bot [] with status := .finished }) rfl (fun w => ?_) ⟨rfl, rfl⟩
  simp [G, stepG, unwind, bot, goexitEntry, Frame.catches]
  rfl
set_option maxRecDepth 100000 in
set_option maxHeartbeats 4000000 in
theorem closed {T : Array Value} (hT : T.size = 21) (hF : WQ J C w) : Goes Tryz.prog false (RW 74 J.Wg C 1 0 0) (DJ J C) (CR Tryz.prog 74 J.Wg C) 60 (Go.Conc.served (G (atRecv T) [frG J C, bot]) (.tuple #[.int .i64 0, .bool false])) w := by
  obtain ⟨v0, v1, v2, v3, v4, v5, v6, v7, v8, v9, v10, v11, v12, v13, v14, v15, v16, v17, v18, v19, v20, rfl⟩ := array21 T hT
  have e : Go.Conc.served (G (atRecv #[v0, v1, v2, v3, v4, v5, v6, v7, v8, v9, v10, v11, v12, v13, v14, v15, v16, v17, v18, v19, v20]) [frG J C, bot]) (.tuple #[.int .i64 0, .bool false]) =
      G ((base iA1).at ⟨#[v0, v1, v2, v3, v4, v5, v6, .tuple #[.int .i64 0, .bool false], v8, v9, v10, v11, v12, v13, v14, v15, v16, v17, v18, v19, v20], []⟩ [.inRegion (regs fnA1 1) [1], .code (second (round fnA1 0)), .inLoop (round fnA1 0), .inBlock 0]) [frG J C, bot] := by
    simp only [Go.Conc.served, G, atRecv, Frame.finish_at]
    rfl
  rw [e]
  clear e
  refine Goes.step rfl (fun _ h₁ => ?_)
  replace hF := hF.rely h₁
  clear h₁
  refine goes_val (.bool false) rfl rfl (by k_ne) rfl rfl ?_
  refine ⟨dj_nil _, ?_⟩
  rw [show (Act.put ⟨#[v0, v1, v2, v3, v4, v5, v6, .tuple #[.int .i64 0, .bool false], v8, v9, v10, v11, v12, v13, v14, v15, v16, v17, v18, v19, v20], []⟩ ((regs fnA1 1)[1]'(by decide)).dst (.bool false)) = ⟨#[v0, v1, v2, v3, v4, v5, v6, .tuple #[.int .i64 0, .bool false], .bool false, v9, v10, v11, v12, v13, v14, v15, v16, v17, v18, v19, v20], []⟩ from rfl]
  refine Goes.step rfl (fun _ h₁ => ?_)
  replace hF := hF.rely h₁
  clear h₁
  rw [stepG_region_end]
  simp only [goes_go]
  refine ⟨dj_nil _, ?_⟩
  conv => arg 7; rw [show second (round fnA1 0) = .seq (.cond (.tmp 8) .skip (.exit 0)) (second (second (round fnA1 0))) from rfl]
  refine Goes.step rfl (fun _ h₁ => ?_)
  replace hF := hF.rely h₁
  clear h₁
  rw [stepG_seq]
  simp only [goes_go]
  refine ⟨dj_nil _, ?_⟩
  refine Goes.step rfl (fun _ h₁ => ?_)
  replace hF := hF.rely h₁
  clear h₁
  rw [stepG_cond (t := false) rfl]
  simp only [goes_go]
  refine ⟨dj_nil _, ?_⟩
  simp only [Bool.false_eq_true, ↓reduceIte]
  refine Goes.step rfl (fun _ h₁ => ?_)
  replace hF := hF.rely h₁
  clear h₁
  refine goes_exit rfl ?_
  refine ⟨dj_nil _, ?_⟩
  refine Goes.step rfl (fun _ h₁ => ?_)
  replace hF := hF.rely h₁
  clear h₁
  rw [stepG_end]
  simp only [goes_go]
  refine ⟨dj_nil _, ?_⟩
  refine Goes.step rfl (fun _ h₁ => ?_)
  replace hF := hF.rely h₁
  clear h₁
  unfold frG
  refine goes_leave0 rfl rfl Tryz.func26 rfl ⟨dj_nil _, ?_⟩
  refine Goes.step rfl (fun _ h₁ => ?_)
  replace hF := hF.rely h₁
  clear h₁
  rw [stepG_region_end]
  simp only [goes_go]
  refine ⟨dj_nil _, ?_⟩
  refine Goes.step rfl (fun _ h₁ => ?_)
  replace hF := hF.rely h₁
  clear h₁
  rw [stepG_end]
  simp only [goes_go]
  refine ⟨dj_nil _, ?_⟩
  refine Goes.step rfl (fun _ h₁ => ?_)
  replace hF := hF.rely h₁
  clear h₁
  rw [stepG_unwind_enterV rfl Tryz.func44 (by kernel_rfl) rfl]
  simp only [goes_go]
  refine ⟨dj_nil _, ?_⟩
  simp only [Tryz.f44]
  try walk_nrm
  refine Goes.step rfl (fun _ h₁ => ?_)
  replace hF := hF.rely h₁
  clear h₁
  rw [stepG_seq]
  simp only [goes_go]
  refine ⟨dj_nil _, ?_⟩
  refine Goes.step rfl (fun _ h₁ => ?_)
  replace hF := hF.rely h₁
  clear h₁
  rw [stepG_seq]
  simp only [goes_go]
  refine ⟨dj_nil _, ?_⟩
  refine Goes.step rfl (fun _ h₁ => ?_)
  replace hF := hF.rely h₁
  clear h₁
  rw [stepG_region]
  simp only [goes_go, List.size_toArray, List.length_cons, List.length_nil, Nat.reduceAdd, Nat.zero_add, List.range, List.range.loop]
  refine ⟨dj_nil _, ?_⟩
  refine Goes.step rfl (fun _ h₁ => ?_)
  replace hF := hF.rely h₁
  clear h₁
  rw [stepG_recover rfl rfl rfl rfl]
  simp only [goes_go]
  refine ⟨dj_nil _, ?_⟩
  try walk_nrm
  refine Goes.step rfl (fun _ h₁ => ?_)
  replace hF := hF.rely h₁
  clear h₁
  refine goes_oper_k rfl rfl (by k_ne) (fun K hK => ?_)
  go_simp
  refine hK _ _ ⟨?_, ?_⟩
  · refine dj_none ?_
    intro e he
    have hm := mem_listed he
    simp [go_sem, *] at hm
  clear hK K
  try walk_nrm
  refine Goes.step rfl (fun _ h₁ => ?_)
  replace hF := hF.rely h₁
  clear h₁
  rw [stepG_region_end]
  simp only [goes_go]
  refine ⟨dj_nil _, ?_⟩
  refine Goes.step rfl (fun _ h₁ => ?_)
  replace hF := hF.rely h₁
  clear h₁
  rw [stepG_seq]
  simp only [goes_go]
  refine ⟨dj_nil _, ?_⟩
  refine Goes.step rfl (fun _ h₁ => ?_)
  replace hF := hF.rely h₁
  clear h₁
  rw [stepG_region]
  simp only [goes_go, List.size_toArray, List.length_cons, List.length_nil, Nat.reduceAdd, Nat.zero_add, List.range, List.range.loop]
  refine ⟨dj_nil _, ?_⟩
  refine Goes.step rfl (fun _ h₁ => ?_)
  replace hF := hF.rely h₁
  clear h₁
  refine goes_oper_k rfl rfl (by k_ne) (fun K hK => ?_)
  go_simp
  refine hK _ _ ⟨?_, ?_⟩
  · refine dj_none ?_
    intro e he
    have hm := mem_listed he
    simp [go_sem, *] at hm
  clear hK K
  try walk_nrm
  refine Goes.step rfl (fun _ h₁ => ?_)
  replace hF := hF.rely h₁
  clear h₁
  refine goes_val (.bool false) rfl rfl (by k_ne) rfl rfl ?_
  refine ⟨dj_nil _, ?_⟩
  walk_nrm
  refine Goes.step rfl (fun _ h₁ => ?_)
  replace hF := hF.rely h₁
  clear h₁
  rw [stepG_region_end]
  simp only [goes_go]
  refine ⟨dj_nil _, ?_⟩
  refine Goes.step rfl (fun _ h₁ => ?_)
  replace hF := hF.rely h₁
  clear h₁
  rw [stepG_cond (t := false) rfl]
  simp only [goes_go]
  refine ⟨dj_nil _, ?_⟩
  simp only [Bool.false_eq_true, ↓reduceIte]
  refine Goes.step rfl (fun _ h₁ => ?_)
  replace hF := hF.rely h₁
  clear h₁
  rw [stepG_skip]
  simp only [goes_go]
  refine ⟨dj_nil _, ?_⟩
  refine Goes.step rfl (fun _ h₁ => ?_)
  replace hF := hF.rely h₁
  clear h₁
  rw [stepG_region]
  simp only [goes_go, List.size_toArray, List.length_cons, List.length_nil, Nat.reduceAdd, Nat.zero_add, List.range, List.range.loop]
  refine ⟨dj_nil _, ?_⟩
  refine Goes.step rfl (fun _ h₁ => ?_)
  replace hF := hF.rely h₁
  clear h₁
  refine goes_oper_k rfl rfl (by k_ne) (fun K hK => ?_)
  have hld := hF.wg
  go_simp
  refine hK _ _ ⟨?_, ?_⟩
  · refine dj_read (b := C) (.inl (.inl rfl)) (o := 0) ?_
    intro e he
    have hm := mem_listed he
    simp [go_sem, *] at hm
    exact hm
  clear hK K hld
  try walk_nrm
  refine Goes.step rfl (fun _ h₁ => ?_)
  replace hF := hF.rely h₁
  clear h₁
  refine goes_call rfl rfl (by k_ne) rfl Tryz.func45 (by kernel_rfl) rfl ⟨dj_nil _, ?_⟩
  rw [← enter_at _ Tryz.func45 rfl]
  try walk_nrm
  refine (goes_weak dj_of_dc0 (doneCR (L := wgL) (qt := 5) wgH ?_ _ hF.live)).mono (by omega)
  exact quitsTail _ rfl _
end
end Go.Proofs.YtgcbcagaibecbaaGreatDoor.Pool

namespace Go.Proofs.YtgcbcagaibecbaaGreatDoor.Pool
set_option maxRecDepth 20000
open Go Go.Conc Gap
open Go.ConcR (Payload)
local instance : Gap.Leaps := noLeaps

structure Sm (w0 W : World) : Prop where
  os : W.os = w0.os
  tape : W.tape = w0.tape
  output : W.output = w0.output
structure Abv (p q : Nat → Prop) (n : Nat) (w0 : World) (O : Nat → Prop) (W : World) : Prop where
  up : ∀ b, O b → p b
  dn : ∀ b, q b → O b
  size : n ≤ W.heap.size
  sm : Sm w0 W
section
variable {P : Program} {main : Bool} {p q Z O : Nat → Prop} {n : Nat} {w0 W W1 : World} {g : Goroutine} {Stop Stop' : (Nat → Prop) → Goroutine → World → Prop}
theorem Sm.refl (w : World) : Sm w w := ⟨rfl, rfl, rfl⟩
theorem Sm.trans {a b c : World} (h : Sm a b) (k : Sm b c) : Sm a c := ⟨k.os.trans h.os, k.tape.trans h.tape, k.output.trans h.output⟩
theorem Sm.at (w : World) (e : Nat) : Sm w (w.at e) := ⟨rfl, rfl, rfl⟩
theorem Sm.rely (h : Rely O Z W W1) : Sm W W1 := ⟨h.os, h.tape, h.output⟩
theorem Sm.aside {Wg : Nat} (h : Aside Wg W W1) : Sm W W1 := ⟨h.os, h.tape, h.output⟩
theorem Abv.rely (h : Abv p q n w0 O W) (r : Rely O Z W W1) : Abv p q n w0 O W1 := ⟨h.up, h.dn, Nat.le_trans h.size r.size, h.sm.trans (.rely r)⟩
theorem above (hp : ∀ b, n ≤ b → p b) (h : Way0 P main Z Stop O g W) (k : Abv p q n w0 O W) : Way0 P main Z (fun O' g' W' => Stop O' g' W' ∧ Abv p q n w0 O' W') O g W := by
  induction h with
  | stop h => exact .stop fun W1 h1 => ⟨h W1 h1, k.rely h1⟩
  | leap T _ h => exact (h _ (.refl _)).elim
  | @step O g W hs hg hk ih =>
    refine .step hs hg fun W1 g' W' es h1 he => ih W1 g' W' es h1 he ?_
    obtain ⟨g2, W2, es2, he2, hgu⟩ := hg W1 h1
    rw [he] at he2
    injection he2 with e1 e2 e3
    subst e1 e2 e3
    have k1 := k.rely h1
    exact ⟨fun b hb => hb.elim (k1.up b) fun x => hp b (Nat.le_trans k1.size x.1), fun b hb => .inl (k1.dn b hb), Nat.le_trans k1.size hgu.size, k1.sm.trans ⟨hgu.os, hgu.tape, hgu.output⟩⟩
theorem way0_mono (h : Way0 P main Z Stop O g W) (hs : ∀ O g W, Stop O g W → Stop' O g W) : Way0 P main Z Stop' O g W := by
  induction h with
  | stop h => exact .stop fun W1 h1 => hs _ _ _ (h W1 h1)
  | leap T _ h => exact (h _ (.refl _)).elim
  | step hr hg _ ih => exact .step hr hg ih
end
end Go.Proofs.YtgcbcagaibecbaaGreatDoor.Pool

namespace Go.Proofs.YtgcbcagaibecbaaGreatDoor.Ev
set_option maxRecDepth 20000
open Go Gap
variable [Go.Proofs.YtgcbcagaibecbaaGreatDoor.Gap.Leaps]

section
variable {P : Program} {w0 w w' : World} {S T : Nat → Prop} {H : List Ent}

theorem St.keep (h : St w0 S w H) (n : Nat) : St w0 S w (H.take n) := h.weaken (List.take_sublist n H)

theorem Ext.of_grown {row : Option Nat} (h : w.grownBy w' row) : Ext (fun b => row = some b) w w' := ⟨h.os, h.tape, h.output, h.size, fun k hk hs => h.block k hk fun e => hs e.symm⟩

def own (e : TypeId) (size : Nat) (v : Value) (n : Nat) (xs : List Value) : Ent := ⟨v.ownBlock.toList, fun w => w.ownsRow 0 e size v n xs⟩
theorem own_local (e : TypeId) (size : Nat) (v : Value) (n : Nat) (xs : List Value) : (own e size v n xs).Local := by
  intro w w' h hh
  obtain ⟨h1, h2 | ⟨g, cap, cur, rfl, h3, h4, h5⟩⟩ := hh
  · exact ⟨h1, .inl h2⟩
  · exact ⟨h1, .inr ⟨g, cap, cur, rfl, h3, (h g (by simp [own, Value.ownBlock])).trans h4, h5⟩⟩
theorem own_nil (e : TypeId) (size : Nat) (w : World) : (own e size (.slice none 0 0) 0 []).holds w := ⟨by simp, .inl ⟨rfl, rfl⟩⟩

theorem alloc_eq (w : World) (e : TypeId) (cs : List Value) : w.alloc (.cells cs.toArray e) = pushBlk w e cs := rfl

def fillK (sz : Nat) : List Value → List (Nat × Value) → Option (List Value)
  | z, [] => some z
  | z, (i, v) :: r => match Nat.beq (cellsL v).length sz, Nat.ble (i * sz + sz) z.length with
    | true, true => fillK sz (over z (i * sz) (cellsL v)) r
    | _, _ => none
theorem fill_of {sz : Nat} : ∀ (parts : List (Nat × Value)) (z cs : List Value), fillK sz z parts = some cs → Instr.fill (fun i => some (i * sz, sz)) z.toArray parts = some cs.toArray
  | [], z, cs, h => by
    simp only [fillK, Option.some.injEq] at h
    subst h
    rfl
  | (i, v) :: r, z, cs, h => by
    unfold fillK at h
    split at h
    · rename_i h1 h2
      have hsz := Nat.eq_of_beq_eq_true h1
      have hle := Nat.le_of_ble_eq_true h2
      have ih := fill_of r _ cs h
      have e1 : v.cells.size = sz := by rw [← hsz, cellsL_eq]; simp
      have e3 : v.cells.zipIdx.foldl (fun (cs : Array Value) (x : Value × Nat) => cs.setIfInBounds (i * sz + x.2) x.1) z.toArray = (over z (i * sz) (cellsL v)).toArray := by
        have := over_set (cellsL v) z (i * sz) 0 (by omega)
        rw [← Array.foldl_toList]
        simpa [cellsL_eq] using this
      unfold Instr.fill
      simp only []
      rw [if_neg (by simp only [List.size_toArray]; rw [e1]; simp; omega), ← ih]
      congr 1
    · cases h
def zerosL (z : Value) (n : Nat) : List Value := (List.range n).map fun i => (cellsL z)[i % (cellsL z).length]!
theorem zeros_eq (z : Value) (n : Nat) : (Array.range n).map (z.cells[· % z.cells.size]!) = (zerosL z n).toArray := by
  apply Array.ext'
  simp [zerosL, cellsL_eq]
  intro k _
  rw [getElem!_def]
  cases z.cells[k % z.cells.size]? <;> rfl

theorem St.lit (h : St w0 S w H) {t e : TypeId} {len sz : Nat} {z : Value} {parts : Array (Nat × Value)} {cs : List Value} {k : Value → World → Prop}
    (hu : P.underlying t = some (.slice e)) (hs : (P.info? e).map (·.size) = some sz) (hz : (P.info? e).bind (·.zero) = some z) (hsmall : Nat.ble (len * sz) (2 ^ 24) = true) (hpos : Nat.beq (len * sz) 0 = false)
    (hf : fillK sz (zerosL z (len * sz)) parts.toList = some cs)
    (hk : ∀ b w', w0.heap.size ≤ b → St w0 S w' (H ++ [Ev.blk b e cs]) → k (.slice (some ⟨b, 0, none⟩) len len) w') : RunC P (Instr.buildSlice t len parts) w k := by
  obtain ⟨ie, h1, h2⟩ := Option.map_eq_some_iff.1 hs
  obtain ⟨ie', h3, h4⟩ := Option.bind_eq_some_iff.1 hz
  obtain rfl := Option.some.inj (h1.symm.trans h3)
  subst h2
  refine .loud (plain_buildSlice _ _ _) fun gn gd => ?_
  replace h := h.gap gn gd
  generalize Gap.wgap w gn gd = w at h
  refine ⟨_, _, run_buildSlice w t e len parts cs.toArray ie z hu h1 h4 (by have := Nat.le_of_ble_eq_true hsmall; omega) (Nat.ne_of_beq_eq_false hpos) (by rw [zeros_eq]; exact fill_of _ _ _ hf), ?_⟩
  rw [alloc_eq]
  refine hk _ _ h.ext.size (h.made (Ext.push _ _ _ _) (blk_local _ _ _) (show (w.heap.push _)[w.heap.size]? = _ by rw [Array.getElem?_push, if_pos rfl]) ?_)
  intro b hb
  obtain rfl : b = w.heap.size := by simpa [Ev.blk] using hb
  simp [pushBlk]

end
end Go.Proofs.YtgcbcagaibecbaaGreatDoor.Ev

namespace Go.Proofs.YtgcbcagaibecbaaGreatDoor.Ev
set_option maxRecDepth 20000
open Go Gap
variable [Go.Proofs.YtgcbcagaibecbaaGreatDoor.Gap.Leaps]

inductive Pr where
  | int (n : Int)
  | bool (b : Bool)
  | str (s : ByteArray)
  deriving DecidableEq
inductive PK where
  | int | bool | str
  deriving DecidableEq
def Pr.k : Pr → PK
  | .int _ => .int
  | .bool _ => .bool
  | .str _ => .str
def Pr.v : Pr → Value
  | .int n => .int .i64 n
  | .bool b => .bool b
  | .str s => .string s

def flatFs (P : Program) (rec_ : TypeId → Option (List PK)) : List Field → Nat → Option (List PK)
  | [], _ => some []
  | f :: r, off => match f.name != "_" && f.offset == off && (P.info? f.type).isSome && (P.underlying f.type).isSome with
    | false => none
    | true => match rec_ f.type with
      | none => none
      | some k => match P.cellsOf f.type == k.length && (aggB P f.type || k.length == 1) with
        | false => none
        | true => (flatFs P rec_ r (off + k.length)).map (k ++ ·)
def flatK (P : Program) : Nat → TypeId → Option (List PK)
  | 0, _ => none
  | d + 1, t => match P.underlying t with
    | some (.int .i64) => some [.int]
    | some .bool => some [.bool]
    | some .string => some [.str]
    | some (.struct fs) => match P.stoodInHeld t with
      | true => none
      | false => flatFs P (flatK P d) fs.toList 0
    | _ => none

theorem bbeq (a b : ByteArray) : (a == b) = decide (a = b) := by
  obtain ⟨x⟩ := a
  obtain ⟨y⟩ := b
  show (x == y) = _
  by_cases h : x = y <;> simp [h]

section
variable {P : Program}

def mkv (P : Program) (t : TypeId) (l : List Pr) : Value := match aggB P t with
  | true => .agg (l.map Pr.v).toArray
  | false => (l.map Pr.v).headD undef

theorem kinds_one {l : List Pr} {k : PK} (h : l.map Pr.k = [k]) : ∃ p, l = [p] ∧ p.k = k := by
  match l, h with
  | [p], h => exact ⟨p, rfl, by simpa using h⟩

theorem part_mkv {t : TypeId} {l : List Pr} {off n : Nat} (hi : (P.info? t).isSome = true) (hd : ∃ d, P.underlying t = some d) (hn : P.cellsOf t = n) (h1 : aggB P t = false → n = 1) (hle : off + n ≤ l.length) (w : World) :
    (part t (l.map Pr.v).toArray off).run P w = .ok (mkv P t ((l.drop off).take n)) w := by
  unfold mkv
  cases hg : aggB P t with
  | true =>
    rw [part_run hi hd hn (by simpa using hle) hg w]
    simp
  | false =>
    have := h1 hg
    subst this
    have hlt : off < l.length := by omega
    have e : l.drop off = l[off] :: l.drop (off + 1) := by rw [List.drop_eq_getElem_cons hlt]
    rw [part_run1 (v := l[off].v) hd (by simp [hlt]) hg w, e]
    rfl

theorem flatFs_eq {rec_ : TypeId → Option (List PK)} {D : Nat} (IH : ∀ (t : TypeId) (ks : List PK) (a b : List Pr), rec_ t = some ks → a.map Pr.k = ks → b.map Pr.k = ks → ∀ w, (Op.equalIn D t (mkv P t a) (mkv P t b)).run P w = .ok (decide (a = b)) w) :
    ∀ (fs : List Field) (off : Nat) (ks : List PK) (a b : List Pr), flatFs P rec_ fs off = some ks → ((a.drop off).take ks.length).map Pr.k = ks → ((b.drop off).take ks.length).map Pr.k = ks → off + ks.length ≤ a.length → off + ks.length ≤ b.length →
    ∀ w, (Op.eqFields D (a.map Pr.v).toArray (b.map Pr.v).toArray fs).run P w = .ok (decide ((a.drop off).take ks.length = (b.drop off).take ks.length)) w := by
  intro fs
  induction fs with
  | nil =>
    intro off ks a b h ha hb la lb w
    simp only [flatFs, Option.some.injEq] at h
    subst h
    simp [Op.eqFields]
  | cons f r ih =>
    intro off ks a b h ha hb la lb w
    unfold flatFs at h
    split at h
    · cases h
    · rename_i hc
      simp only [Bool.and_eq_true, bne_iff_ne, ne_eq, beq_iff_eq] at hc
      obtain ⟨⟨⟨hn, rfl⟩, hi⟩, hu⟩ := hc
      have hd' := Option.isSome_iff_exists.1 hu
      split at h
      · cases h
      · rename_i k hk
        split at h
        · cases h
        · rename_i hcs
          simp only [Bool.and_eq_true, Bool.or_eq_true, beq_iff_eq] at hcs
          obtain ⟨hcs, hone'⟩ := hcs
          have hone : aggB P f.type = false → k.length = 1 := fun hg => hone'.resolve_left (by simp [hg])
          obtain ⟨ks', hr, rfl⟩ := Option.map_eq_some_iff.1 h
          simp only [List.length_append] at la lb ha hb ⊢
          have sp : ∀ (l : List Pr) (i m n : Nat), (l.drop i).take (m + n) = (l.drop i).take m ++ (l.drop (i + m)).take n := by
            intro l i m n
            rw [List.take_add, List.drop_drop]
          rw [sp, List.map_append] at ha hb
          have ea := List.append_inj ha (by simp; omega)
          have eb := List.append_inj hb (by simp; omega)
          have pa := part_mkv (P := P) (t := f.type) (l := a) (off := f.offset) hi hd' hcs hone (by omega)
          have pb := part_mkv (P := P) (t := f.type) (l := b) (off := f.offset) hi hd' hcs hone (by omega)
          have he := IH f.type k ((a.drop f.offset).take k.length) ((b.drop f.offset).take k.length) hk ea.1 eb.1
          have hrest := ih (f.offset + k.length) ks' a b hr ea.2 eb.2 (by omega) (by omega)
          rw [Op.eqFields, if_pos hn]
          simp only [Sem.run_bind, pa, pb, Result.andThen_ok, he]
          rw [sp, sp]
          by_cases h : (a.drop f.offset).take k.length = (b.drop f.offset).take k.length
          · simp only [h, decide_true, Bool.not_true, Bool.false_eq_true, if_false, hrest, List.append_cancel_left_eq]
          · have hne : ¬ ((a.drop f.offset).take k.length ++ (a.drop (f.offset + k.length)).take ks'.length = (b.drop f.offset).take k.length ++ (b.drop (f.offset + k.length)).take ks'.length) := by
              intro e
              exact h (List.append_inj e (by simp; omega)).1
            simp [h, hne]

theorem flat_eq : ∀ (d : Nat) (t : TypeId) (ks : List PK) (D : Nat) (a b : List Pr), flatK P d t = some ks → d ≤ D → a.map Pr.k = ks → b.map Pr.k = ks → ∀ w, (Op.equalIn D t (mkv P t a) (mkv P t b)).run P w = .ok (decide (a = b)) w := by
  intro d
  induction d with
  | zero => intro t ks D a b h; simp [flatK] at h
  | succ d ih =>
    intro t ks D a b h hD ha hb w
    obtain ⟨D, rfl⟩ : ∃ D', D = D' + 1 := ⟨D - 1, by omega⟩
    unfold flatK at h
    split at h
    · rename_i hu
      simp only [Option.some.injEq] at h
      subst h
      obtain ⟨p, rfl, hp⟩ := kinds_one ha
      obtain ⟨q, rfl, hq⟩ := kinds_one hb
      cases p <;> simp [Pr.k] at hp
      cases q <;> simp [Pr.k] at hq
      rename_i x y
      have hg : aggB P t = false := by simp [aggB, hu]
      simp only [mkv, hg, List.map_cons, List.map_nil, List.headD_cons, Pr.v]
      have e : (Op.equalIn (D + 1) t (.int .i64 x) (.int .i64 y)).run P w = .ok (x == y) w := by simp [Op.equalIn, underlying, hu]
      rw [e]
      congr 1
      by_cases h : x = y <;> simp [h]
    · rename_i hu
      simp only [Option.some.injEq] at h
      subst h
      obtain ⟨p, rfl, hp⟩ := kinds_one ha
      obtain ⟨q, rfl, hq⟩ := kinds_one hb
      cases p <;> simp [Pr.k] at hp
      cases q <;> simp [Pr.k] at hq
      rename_i x y
      have hg : aggB P t = false := by simp [aggB, hu]
      simp only [mkv, hg, List.map_cons, List.map_nil, List.headD_cons, Pr.v]
      have e : (Op.equalIn (D + 1) t (.bool x) (.bool y)).run P w = .ok (x == y) w := by simp [Op.equalIn, underlying, hu]
      rw [e]
      congr 1
      by_cases h : x = y <;> simp [h]
    · rename_i hu
      simp only [Option.some.injEq] at h
      subst h
      obtain ⟨p, rfl, hp⟩ := kinds_one ha
      obtain ⟨q, rfl, hq⟩ := kinds_one hb
      cases p <;> simp [Pr.k] at hp
      cases q <;> simp [Pr.k] at hq
      rename_i x y
      have hg : aggB P t = false := by simp [aggB, hu]
      simp only [mkv, hg, List.map_cons, List.map_nil, List.headD_cons, Pr.v]
      have e : (Op.equalIn (D + 1) t (.string x) (.string y)).run P w = .ok (x == y) w := by simp [Op.equalIn, underlying, hu]
      rw [e, bbeq]
      congr 1
      by_cases h : x = y <;> simp [h]
    · rename_i fs hu
      split at h
      · cases h
      · rename_i hst
        have hg : aggB P t = true := by simp [aggB, hu]
        have hf : P.fieldsOf t = fs := by simp [Program.fieldsOf, hu]
        have := flatFs_eq (P := P) (D := D) (fun t ks a b h ha hb => ih t ks D a b h (by omega) ha hb) fs.toList 0 ks a b h (by rw [List.drop_zero, List.map_take, ha, List.take_length]) (by rw [List.drop_zero, List.map_take, hb, List.take_length]) (by rw [← ha]; simp) (by rw [← hb]; simp) w
        simp only [mkv, hg]
        rw [run_equalIn_struct w D t _ _ (by rw [hf]; exact hu) hst, hf, this]
        congr 2
        have la : a.length = ks.length := by rw [← ha]; simp
        have lb : b.length = ks.length := by rw [← hb]; simp
        rw [List.drop_zero, List.drop_zero, ← la, List.take_length, la, ← lb, List.take_length]
    · cases h

def Straight (P : Program) {α : Type} : Sem α → Prop
  | .pure _ => True
  | .program k => Straight P (k P)
  | .halt _ => True
  | _ => False
theorem Straight.plain {α : Type} : ∀ {s : Sem α}, Straight P s → Plain P s
  | .pure _, _ => trivial
  | .program k, h => Straight.plain (s := k P) h
  | .halt _, _ => trivial
theorem Straight.bind {α β : Type} : ∀ {s : Sem α} {f : α → Sem β}, Straight P s → (∀ v, (∀ w, s.run P w = .ok v w) → Straight P (f v)) → Straight P (s.bind f)
  | .pure a, f, _, hf => hf a fun _ => rfl
  | .program k, f, h, hf => Straight.bind (s := k P) h hf
  | .halt _, _, _, _ => trivial
theorem straight_bind {α β : Type} {s : Sem α} {f : α → Sem β} (h : Straight P s) (hf : ∀ v, (∀ w, s.run P w = .ok v w) → Straight P (f v)) : Straight P (s >>= f) := Straight.bind h hf
theorem straight_to {α β : Type} {s : Sem α} {f : α → Sem β} {v : α} (h : Straight P s) (hr : ∀ w, s.run P w = .ok v w) (hf : Straight P (f v)) : Straight P (s >>= f) := straight_bind h fun v' hv => by
  have := (hr default).symm.trans (hv default)
  injection this with e
  exact e ▸ hf
theorem straight_under (t : TypeId) : Straight P (underlying t) := by
  show Straight P (match P.underlying t with | some d => (pure d : Sem TypeDesc) | none => stuck "no such type")
  split <;> trivial
theorem straight_info (t : TypeId) : Straight P (typeInfo t) := by
  show Straight P (match P.info? t with | some d => (pure d : Sem TypeInfo) | none => stuck "no such type")
  split <;> trivial
theorem straight_part (t : TypeId) (cs : Array Value) (o : Nat) : Straight P (part t cs o) := by
  unfold part
  refine straight_bind (straight_bind (straight_under t) fun d _ => by cases d <;> trivial) fun b _ => ?_
  split
  · exact straight_bind (straight_bind (straight_info t) fun _ _ => trivial) fun _ _ => trivial
  · split <;> trivial
theorem straight_under_of {t : TypeId} {d : TypeDesc} {β : Type} {f : TypeDesc → Sem β} (h : P.underlying t = some d) (hf : Straight P (f d)) : Straight P (underlying t >>= f) := by
  show Straight P ((match P.underlying t with | some d => (pure d : Sem TypeDesc) | none => stuck "no such type") >>= f)
  rw [h]
  exact hf
theorem flat_straight : ∀ (d : Nat) (t : TypeId) (ks : List PK) (D : Nat) (a b : List Pr), flatK P d t = some ks → d ≤ D → a.map Pr.k = ks → b.map Pr.k = ks → Straight P (Op.equalIn D t (mkv P t a) (mkv P t b)) := by
  intro d
  induction d with
  | zero => intro t ks D a b h; simp [flatK] at h
  | succ d ih =>
    intro t ks D a b h hD ha hb
    obtain ⟨D, rfl⟩ : ∃ D', D = D' + 1 := ⟨D - 1, by omega⟩
    unfold flatK at h
    split at h
    · rename_i hu
      simp only [Option.some.injEq] at h
      subst h
      obtain ⟨p, rfl, hp⟩ := kinds_one ha
      obtain ⟨q, rfl, hq⟩ := kinds_one hb
      cases p <;> simp [Pr.k] at hp
      cases q <;> simp [Pr.k] at hq
      have hg : aggB P t = false := by simp [aggB, hu]
      simp only [mkv, hg, List.map_cons, List.map_nil, List.headD_cons, Pr.v]
      unfold Op.equalIn
      exact straight_under_of hu trivial
    · rename_i hu
      simp only [Option.some.injEq] at h
      subst h
      obtain ⟨p, rfl, hp⟩ := kinds_one ha
      obtain ⟨q, rfl, hq⟩ := kinds_one hb
      cases p <;> simp [Pr.k] at hp
      cases q <;> simp [Pr.k] at hq
      have hg : aggB P t = false := by simp [aggB, hu]
      simp only [mkv, hg, List.map_cons, List.map_nil, List.headD_cons, Pr.v]
      unfold Op.equalIn
      exact straight_under_of hu trivial
    · rename_i hu
      simp only [Option.some.injEq] at h
      subst h
      obtain ⟨p, rfl, hp⟩ := kinds_one ha
      obtain ⟨q, rfl, hq⟩ := kinds_one hb
      cases p <;> simp [Pr.k] at hp
      cases q <;> simp [Pr.k] at hq
      have hg : aggB P t = false := by simp [aggB, hu]
      simp only [mkv, hg, List.map_cons, List.map_nil, List.headD_cons, Pr.v]
      unfold Op.equalIn
      exact straight_under_of hu trivial
    · rename_i fs hu
      split at h
      · cases h
      · rename_i hst
        have hg : aggB P t = true := by simp [aggB, hu]
        simp only [mkv, hg]
        unfold Op.equalIn
        refine straight_under_of hu ?_
        show Straight P (if P.stoodInHeld t = true then _ else _)
        rw [if_neg (by simp [hst])]
        rw [← Array.forIn_toList]
        refine straight_bind ?_ fun s _ => ?_
        · have la : a.length = ks.length := by rw [← ha]; simp
          have lb : b.length = ks.length := by rw [← hb]; simp
          have ha' : ((a.drop 0).take ks.length).map Pr.k = ks := by rw [List.drop_zero, ← la, List.take_length]; exact ha
          have hb' : ((b.drop 0).take ks.length).map Pr.k = ks := by rw [List.drop_zero, ← lb, List.take_length]; exact hb
          have la' : 0 + ks.length ≤ a.length := by omega
          have lb' : 0 + ks.length ≤ b.length := by omega
          clear la lb ha hb hu hst
          generalize fs.toList = l at h ⊢
          revert h ha' hb' la' lb'
          generalize 0 = off
          clear hg
          induction l generalizing off ks with
          | nil => intros; trivial
          | cons f r ihl =>
            intro ha hb la lb h
            unfold flatFs at h
            split at h
            · cases h
            · rename_i hc
              simp only [Bool.and_eq_true, bne_iff_ne, ne_eq, beq_iff_eq] at hc
              obtain ⟨⟨⟨hn, rfl⟩, hi⟩, hu⟩ := hc
              have hd' := Option.isSome_iff_exists.1 hu
              split at h
              · cases h
              · rename_i k hk
                split at h
                · cases h
                · rename_i hcs
                  simp only [Bool.and_eq_true, Bool.or_eq_true, beq_iff_eq] at hcs
                  obtain ⟨hcs, hone'⟩ := hcs
                  have hone : aggB P f.type = false → k.length = 1 := fun hg => hone'.resolve_left (by simp [hg])
                  obtain ⟨ks', hr, rfl⟩ := Option.map_eq_some_iff.1 h
                  simp only [List.length_append] at la lb ha hb
                  have sp : ∀ (l : List Pr) (i m n : Nat), (l.drop i).take (m + n) = (l.drop i).take m ++ (l.drop (i + m)).take n := by
                    intro l i m n
                    rw [List.take_add, List.drop_drop]
                  rw [sp, List.map_append] at ha hb
                  have ea := List.append_inj ha (by simp; omega)
                  have eb := List.append_inj hb (by simp; omega)
                  have pa := part_mkv (P := P) (t := f.type) (l := a) (off := f.offset) hi hd' hcs hone (by omega)
                  have pb := part_mkv (P := P) (t := f.type) (l := b) (off := f.offset) hi hd' hcs hone (by omega)
                  have he := ih f.type k D ((a.drop f.offset).take k.length) ((b.drop f.offset).take k.length) hk (by omega) ea.1 eb.1
                  rw [List.forIn_cons]
                  refine straight_bind ?_ fun st hst => ?_
                  · rw [if_pos hn]
                    refine straight_to (straight_part _ _ _) pa (straight_to (straight_part _ _ _) pb (straight_bind he fun e _ => ?_))
                    cases e <;> trivial
                  · have hst' := hst default
                    rw [if_pos hn] at hst'
                    simp only [Sem.run_bind, pa, pb, Result.andThen_ok] at hst'
                    have hq := flat_eq d f.type k D ((a.drop f.offset).take k.length) ((b.drop f.offset).take k.length) hk (by omega) ea.1 eb.1 default
                    rw [hq] at hst'
                    simp only [Result.andThen_ok] at hst'
                    generalize decide (List.take k.length (List.drop f.offset a) = List.take k.length (List.drop f.offset b)) = e at hst'
                    cases e
                    · simp at hst'
                      subst hst'
                      trivial
                    · simp at hst'
                      subst hst'
                      exact ihl ks' _ ea.2 eb.2 (by omega) (by omega) hr
        · rcases s with ⟨_ | _, _⟩ <;> trivial
    · cases h

theorem flat_plain {t : TypeId} {ks : List PK} {a b : List Pr} (h : flatK P 50 t = some ks) (hs : aggB P t = true) (hg : P.eqGuardType P.depth t = false) (ha : a.map Pr.k = ks) (hb : b.map Pr.k = ks) :
    Plain P (do eqGuard .eql t (.tmp 0) (.tmp 0) (.agg (a.map Pr.v).toArray) (.agg (b.map Pr.v).toArray); Go.binOp .eql t (.agg (a.map Pr.v).toArray) (.agg (b.map Pr.v).toArray) : Sem Value) ∧ Plain P (do eqGuard .neq t (.tmp 0) (.tmp 0) (.agg (a.map Pr.v).toArray) (.agg (b.map Pr.v).toArray); Go.binOp .neq t (.agg (a.map Pr.v).toArray) (.agg (b.map Pr.v).toArray) : Sem Value) := by
  have e := (flat_straight 50 t ks 10000 a b h (by decide) ha hb).plain
  simp only [mkv, hs] at e
  have e1 : ∀ op, (op = .eql ∨ op = .neq) → Plain P (eqGuard op t (.tmp 0) (.tmp 0) (.agg (a.map Pr.v).toArray) (.agg (b.map Pr.v).toArray)) := fun op ho => by
    have key : Plain P (if (!P.eqGuardType P.depth t) = true then (pure () : Sem Unit) else do
      if ← Op.eqGuardIn Op.maxDepth t (.agg (a.map Pr.v).toArray) (.agg (b.map Pr.v).toArray) then unsupported (.noEntry "binop/eql: two nil values of an interface type with methods, in a part of a struct or an array")) := by
      rw [hg]
      trivial
    rcases ho with rfl | rfl <;> exact key
  exact ⟨plain_bind (e1 _ (.inl rfl)) fun _ => plain_eq e, plain_bind (e1 _ (.inr rfl)) fun _ => plain_ne e⟩

theorem neS {t : TypeId} {ks : List PK} {a b : List Pr} {k : Value → Prop} (h : flatK P 50 t = some ks) (hs : aggB P t = true) (hg : P.eqGuardType P.depth t = false) (ha : a.map Pr.k = ks) (hb : b.map Pr.k = ks) (hk : k (.bool (!decide (a = b)))) :
    PureC P (do eqGuard .neq t (.tmp 0) (.tmp 0) (.agg (a.map Pr.v).toArray) (.agg (b.map Pr.v).toArray); Go.binOp .neq t (.agg (a.map Pr.v).toArray) (.agg (b.map Pr.v).toArray)) k := by
  refine PureC.of (fun w => ?_) hk (flat_plain h hs hg ha hb).2
  have e := flat_eq 50 t ks 10000 a b h (by decide) ha hb w
  simp only [mkv, hs] at e
  have e1 : (eqGuard .neq t (.tmp 0) (.tmp 0) (.agg (a.map Pr.v).toArray) (.agg (b.map Pr.v).toArray)).run P w = .ok () w := by
    simp [eqGuard, run_program, hg, Sem.run_bind]
  rw [Sem.run_bind, e1, Result.andThen_ok]
  show (do pure (.bool (!(← Op.equal t _ _))) : Sem Value).run P w = _
  rw [Sem.run_bind]
  show (Result.andThen ((Op.equalIn 10000 t _ _).run P w) _) = _
  rw [e]
  rfl
theorem eqStr {a b : ByteArray} {k : Value → Prop} {t : TypeId} (hk : k (.bool (decide (a = b)))) : PureC P (Go.binOp .eql t (.string a) (.string b)) k := by
  refine PureC.of (fun w => ?_) hk
  rw [← bbeq, beq_toListBytes]
  rfl
theorem neStr {a b : ByteArray} {k : Value → Prop} {t : TypeId} (hk : k (.bool (!decide (a = b)))) : PureC P (Go.binOp .neq t (.string a) (.string b)) k := by
  refine PureC.of (fun w => ?_) hk
  rw [← bbeq, beq_toListBytes]
  rfl
end
end Go.Proofs.YtgcbcagaibecbaaGreatDoor.Ev

namespace Go.Proofs.YtgcbcagaibecbaaGreatDoor.Ev
set_option maxRecDepth 20000
open Go Go.ChangeShapes Go.WideShapes Go.ChangeAt Go.RowKit
variable [Go.Proofs.YtgcbcagaibecbaaGreatDoor.Gap.Leaps]

def Shp (P : Program) (w : World) : Nat → TypeId → List Value → Prop
  | 0, _, _ => True
  | d + 1, t, cs => match P.underlying t with
    | some .bool => ∃ b, cs = [.bool b]
    | some (.int k) => ∃ n, cs = [.int k n] ∧ (Lit.int k n).wf = true
    | some .string => ∃ s : ByteArray, cs = [.string s] ∧ s.size ≤ maxLen
    | some (.slice e) => cs = [.slice none 0 0] ∨ ∃ a n c, cs = [.slice (some a) n c] ∧ n ≤ c ∧ c ≤ maxLen ∧
        ∀ i, i < n → ∃ l : List Value, l.length = P.cellsOf e ∧ (∀ j v, l[j]? = some v → w.cell? ((a.add (i * P.cellsOf e)).add j) = some v) ∧ Shp P w d e l
    | some (.struct fs) => cs.length = P.cellsOf t ∧ ∀ (i : Nat) (f : Field), fs[i]? = some f → Shp P w d f.type ((cs.drop f.offset).take (P.cellsOf f.type))
    | _ => True

theorem trod_shp {H : Type} {enc : TypeId × Value → H} {P : Program} {w : World} {sp : Nat → Bool} {held : Bool} : ∀ (d : Nat) (fuel : Nat) (t : TypeId) (cs : List Value) (x : DataW H × List MemPlace), DataW.trod enc P w 0 sp held fuel t cs = some x → Shp P w d t cs
  | 0, _, _, _, _, _ => trivial
  | d + 1, fuel, t, cs, x, h => by
    unfold Shp
    split
    · rename_i hu
      obtain ⟨b, hb, _⟩ := DataW.trod_bool hu h
      exact ⟨b, hb⟩
    · rename_i hu
      obtain ⟨n, hn, _, hw⟩ := DataW.trod_int hu h
      exact ⟨n, hn, hw⟩
    · rename_i hu
      obtain ⟨s, hs, _, hw⟩ := DataW.trod_string hu h
      exact ⟨s, hs, hw⟩
    · rename_i e hu
      rcases Go.Deep.open_slice hu h with ⟨hcs, _⟩ | ⟨a, len, cap, m, n, D, Pl, hcs, _, hl, hm, hmm, _, hi⟩
      · exact .inl hcs
      · refine .inr ⟨a, len, cap, hcs, hl, hm, fun i hilt => ?_⟩
        obtain ⟨cs', hc, ht⟩ := hi i (by rw [hmm]; split <;> omega)
        obtain ⟨_, hlen, hat⟩ := World.cells?_some hc
        refine ⟨cs', hlen, fun j v hj => ?_, trod_shp d _ _ _ _ ht⟩
        rw [hat j (by have := (List.getElem?_eq_some_iff.1 hj).1; omega)]
        exact hj
    · rename_i fs hu
      obtain ⟨xs, n, _, _, hlen, hxl, hf⟩ := DataW.trod_struct hu h
      refine ⟨hlen, fun i f hi => ?_⟩
      have h1 := hf i f hi
      have hil : i < xs.length := by rw [hxl]; exact (Array.getElem?_eq_some_iff.1 hi).1
      rw [List.getElem?_eq_getElem hil] at h1
      exact trod_shp d _ _ _ _ h1
    · trivial

structure Slc {α : Type} (w : World) (sz : Nat) (enc : α → List Value) (G : α → Prop) (a : Option Addr) (n : Nat) (xs : List α) : Prop where
  len : xs.length = n
  max : n ≤ 9223372036854775807
  cells : ∀ k x, xs[k]? = some x → ∃ b o, a = some ⟨b, o, none⟩ ∧ b < w.heap.size ∧ CellsAt w b (o + k * sz) (enc x)
  good : ∀ x ∈ xs, G x

def Dec {α : Type} (P : Program) (w : World) (d : Nat) (t : TypeId) (enc : α → List Value) (G : α → Prop) : Prop := ∀ cs, Shp P w d t cs → ∃ x, cs = enc x ∧ G x

theorem list_of {α : Type} {p : Nat → α → Prop} : ∀ n, (∀ i, i < n → ∃ x, p i x) → ∃ xs : List α, xs.length = n ∧ ∀ i x, xs[i]? = some x → p i x
  | 0, _ => ⟨[], rfl, by simp⟩
  | n + 1, h => by
    obtain ⟨xs, hl, hx⟩ := list_of n fun i hi => h i (by omega)
    obtain ⟨y, hy⟩ := h n (by omega)
    refine ⟨xs ++ [y], by simp [hl], fun i x hi => ?_⟩
    rw [List.getElem?_append] at hi
    split at hi
    · exact hx i x hi
    · rename_i hge
      have : i = n := by
        have := (List.getElem?_eq_some_iff.1 hi).1
        simp at this
        omega
      subst this
      simp [hl] at hi
      subst hi
      exact hy

theorem addr_add_add (a : Addr) (h : a.spot = none) (i j : Nat) : (a.add i).add j = ⟨a.block, a.off + i + j, none⟩ := by
  obtain ⟨b, o, s⟩ := a
  simp only at h
  subst h
  rw [add_none, add_none]

theorem slc_of {α : Type} {P : Program} {w : World} {d : Nat} {t e : TypeId} {sz : Nat} {enc : α → List Value} {G : α → Prop} (hu : P.underlying t = some (.slice e)) (hc : P.cellsOf e = sz) (hsz : 0 < sz) (hd : Dec P w d e enc G)
    {a : Option Addr} {n c : Nat} (h : Shp P w (d + 1) t [.slice a n c]) : ∃ xs, Slc w sz enc G a n xs ∧ n ≤ c := by
  unfold Shp at h
  rw [hu] at h
  simp only at h
  rcases h with h | ⟨a', n', c', h, hnc, hm, hi⟩
  · simp only [List.cons.injEq, Value.slice.injEq, and_true] at h
    obtain ⟨rfl, rfl, rfl⟩ := h
    exact ⟨[], ⟨rfl, by omega, by simp, by simp⟩, Nat.le_refl _⟩
  · simp only [List.cons.injEq, Value.slice.injEq, and_true] at h
    obtain ⟨rfl, rfl, rfl⟩ := h
    have key : ∀ i, i < n → ∃ x, (∃ b o, some a' = some ⟨b, o, none⟩ ∧ b < w.heap.size ∧ CellsAt w b (o + i * sz) (enc x)) ∧ G x := by
      intro i hil
      obtain ⟨l, hl, hcell, hs⟩ := hi i hil
      obtain ⟨x, rfl, hg⟩ := hd l hs
      rw [hc] at hl hcell
      have h0 : ∃ v, (enc x)[0]? = some v := ⟨_, List.getElem?_eq_getElem (by omega)⟩
      obtain ⟨v, hv⟩ := h0
      have hc0 := hcell 0 v hv
      have hspot : a'.spot = none := by
        obtain ⟨l0, hl0, hcell0, _⟩ := hi 0 (by omega)
        rw [hc] at hl0
        have h1 := World.cell?_spot (hcell0 0 _ (List.getElem?_eq_getElem (by omega)))
        simpa [Addr.add] using h1
      refine ⟨x, ⟨a'.block, a'.off, ?_, ?_, fun j u hj => ?_⟩, hg⟩
      · obtain ⟨b, o, s⟩ := a'; simp only at hspot; subst hspot; rfl
      · have := cell_lt hc0
        rw [addr_add_add _ hspot] at this
        exact this
      · have := hcell j u hj
        rwa [addr_add_add _ hspot] at this
    obtain ⟨xs, hl, hx⟩ := list_of n key
    refine ⟨xs, ⟨hl, by unfold maxLen at hm; omega, fun k x hk => (hx k x hk).1, fun x hx' => ?_⟩, hnc⟩
    obtain ⟨k, hk⟩ := List.mem_iff_getElem?.1 hx'
    exact (hx k x hk).2

theorem dec_int {P : Program} {w : World} {d : Nat} {t : TypeId} (hu : P.underlying t = some (.int .i64)) : Dec P w (d + 1) t (fun x : Int => [.int .i64 x]) (fun x => -9223372036854775808 ≤ x ∧ x ≤ 9223372036854775807) := by
  intro cs h
  unfold Shp at h
  rw [hu] at h
  obtain ⟨n, rfl, hw⟩ := h
  refine ⟨n, rfl, ?_⟩
  have h1 : IntKind.i64.min = -9223372036854775808 := rfl
  have h2 : IntKind.i64.max = 9223372036854775807 := rfl
  simp only [Lit.wf, Bool.and_eq_true, decide_eq_true_eq] at hw
  omega
theorem trodAll_ext {H : Type} {enc : TypeId × Value → H} {P : Program} (hl : laidOutB P = true) {W W' : World} (hb : Below W.heap.size W W') : ∀ (ts : List TypeId) (vs : List Value) (ds : List (DataW H)) (ps : List MemPlace),
    (ts.all fun t => P.readableRec t && decide (t < P.types.size)) = true → DataW.TrodAll enc P W 0 (fun _ => true) true ts vs ds ps → (∀ x ∈ ps, x.block < W.heap.size) → DataW.TrodAll enc P W' 0 (fun b => decide (b < W.heap.size)) true ts vs ds ps
  | [], vs, ds, ps, _, h, _ => by
    cases vs <;> cases ds <;> simp_all [DataW.TrodAll]
  | t :: ts, vs, ds, ps, hr, h, hlt => by
    obtain ⟨v, vs', d, ds', p, q, rfl, rfl, rfl, h1, h2⟩ := trodAll_cons h
    simp only [List.all_cons, Bool.and_eq_true, decide_eq_true_eq] at hr
    exact ⟨p, q, Below.trod hl hr.1.1 hr.1.2 h1 hb (fun x hx => hlt x (List.mem_append_left _ hx)), trodAll_ext hl hb ts vs' ds' q hr.2 h2 (fun x hx => hlt x (List.mem_append_right _ hx)), rfl⟩

theorem Ext.below {w w' : World} (h : Ext No w w') : Below w.heap.size w w' := ⟨h.os, h.tape, h.output, h.size, fun k hk => h.block k hk fun h => h⟩

def ArgOk (P : Program) (W : World) (t : TypeId) (v : Value) : Prop := (∃ base, Value.okWide P W .any base t v) ∧ ∀ d, Shp P W d t v.cells.toList

theorem arg_slice {α : Type} {P : Program} {W : World} {t e : TypeId} {v : Value} {d sz : Nat} {enc : α → List Value} {G : α → Prop} (hu : P.underlying t = some (.slice e)) (hc : P.cellsOf e = sz) (hsz : 0 < sz) (hd : Dec P W d e enc G) (h : ArgOk P W t v) :
    ∃ a n c xs, v = .slice a n c ∧ Slc W sz enc G a n xs ∧ n ≤ c := by
  obtain ⟨⟨base, h1⟩, h2⟩ := h
  obtain ⟨a, n, c, rfl⟩ := okWide_slice hu h1
  obtain ⟨xs, hx, hn⟩ := slc_of (n := n) (c := c) hu hc hsz hd (h2 (d + 1))
  exact ⟨a, n, c, xs, rfl, hx, hn⟩
theorem arg_int {P : Program} {W : World} {t : TypeId} {v : Value} (hu : P.underlying t = some (.int .i64)) (h : ArgOk P W t v) : ∃ x : Int, v = .int .i64 x ∧ -9223372036854775808 ≤ x ∧ x ≤ 9223372036854775807 := by
  obtain ⟨⟨base, h1⟩, h2⟩ := h
  obtain ⟨n, rfl⟩ := okWide_int hu h1
  obtain ⟨x, hx, hg⟩ := dec_int (d := 0) hu _ (h2 1)
  simp [Value.cells] at hx
  subst hx
  exact ⟨n, rfl, hg⟩
def ArgsOk (P : Program) (W : World) : List TypeId → List Value → Prop
  | [], [] => True
  | t :: ts, v :: vs => ArgOk P W t v ∧ ArgsOk P W ts vs
  | _, _ => False

theorem ArgsOk.cons {P : Program} {W : World} {t : TypeId} {ts : List TypeId} {vs : List Value} (h : ArgsOk P W (t :: ts) vs) : ∃ v vs', vs = v :: vs' ∧ ArgOk P W t v ∧ ArgsOk P W ts vs' := by
  cases vs with
  | nil => exact h.elim
  | cons v vs => exact ⟨v, vs, rfl, h.1, h.2⟩
theorem ArgsOk.nil {P : Program} {W : World} {vs : List Value} (h : ArgsOk P W [] vs) : vs = [] := by
  cases vs with
  | nil => rfl
  | cons v vs => exact h.elim

theorem argsOk_of {H : Type} {enc : TypeId × Value → H} {P : Program} {W : World} {base : Nat} {sp : Nat → Bool} {held : Bool} : ∀ (ts : List TypeId) (vs : List Value) (ds : List (DataW H)) (ps : List MemPlace),
    (∀ (j : Nat) t v, ts[j]? = some t → vs[j]? = some v → Value.okWide P W .any base t v) → DataW.TrodAll enc P W 0 sp held ts vs ds ps → ArgsOk P W ts vs
  | [], vs, ds, ps, _, h => by
    cases vs <;> cases ds <;> simp_all [DataW.TrodAll, ArgsOk]
  | t :: ts, vs, ds, ps, hv, h => by
    obtain ⟨v, vs', d, ds', p, q, rfl, rfl, rfl, h1, h2⟩ := trodAll_cons h
    obtain ⟨fuel, hf⟩ := h1
    exact ⟨⟨⟨base, hv 0 t v rfl rfl⟩, fun d => trod_shp d _ _ _ _ hf⟩, argsOk_of ts vs' ds' q (fun j t' v' ht hv' => hv (j + 1) t' v' ht hv') h2⟩

end Go.Proofs.YtgcbcagaibecbaaGreatDoor.Ev

namespace Go.Proofs.YtgcbcagaibecbaaGreatDoor.Ev
set_option maxRecDepth 20000
open Go Gap
variable [Go.Proofs.YtgcbcagaibecbaaGreatDoor.Gap.Leaps]

structure Codec {α : Type} (sz : Nat) (enc : α → List Value) : Prop where
  len : ∀ x, (enc x).length = sz
  one : ∀ x, (enc x).all isOne = true
  pos : 0 < sz

section
variable {α : Type} {sz : Nat} {enc : α → List Value}

theorem flat_len (C : Codec sz enc) (xs : List α) : (xs.flatMap enc).length = xs.length * sz := by
  induction xs with
  | nil => simp
  | cons x xs ih => rw [List.flatMap_cons, List.length_append, ih, C.len, List.length_cons]; rw [Nat.succ_mul]; omega
theorem flat_one (C : Codec sz enc) (xs : List α) : (xs.flatMap enc).all isOne = true := by
  induction xs with
  | nil => rfl
  | cons x xs ih => rw [List.flatMap_cons, List.all_append, ih, C.one]; rfl
theorem flat_split (C : Codec sz enc) : ∀ {xs : List α} {k : Nat} {x : α}, xs[k]? = some x → xs.flatMap enc = (xs.take k).flatMap enc ++ (enc x ++ (xs.drop (k + 1)).flatMap enc) ∧ ((xs.take k).flatMap enc).length = k * sz
  | [], _, _, h => by simp at h
  | y :: xs, 0, x, h => by
    simp only [List.getElem?_cons_zero, Option.some.injEq] at h
    subst h
    simp
  | y :: xs, k + 1, x, h => by
    simp only [List.getElem?_cons_succ] at h
    obtain ⟨h1, h2⟩ := flat_split C h
    constructor
    · rw [List.flatMap_cons, List.take_succ_cons, List.flatMap_cons, List.drop_succ_cons, List.append_assoc, ← h1]
    · rw [List.take_succ_cons, List.flatMap_cons, List.length_append, h2, C.len, Nat.succ_mul]; omega
theorem flat_get (C : Codec sz enc) {xs : List α} {k j : Nat} {x : α} {v : Value} (hx : xs[k]? = some x) (hv : (enc x)[j]? = some v) : (xs.flatMap enc)[k * sz + j]? = some v := by
  obtain ⟨h1, h2⟩ := flat_split C hx
  have hj := (List.getElem?_eq_some_iff.1 hv).1
  rw [h1, List.getElem?_append_right (by omega), h2, Nat.add_sub_cancel_left, List.getElem?_append_left hj]
  exact hv
theorem over_mid (A B D vs : List Value) (j : Nat) (h : j + vs.length ≤ B.length) : over (A ++ (B ++ D)) (A.length + j) vs = A ++ (over B j vs ++ D) := by
  unfold over
  rw [List.take_append, List.drop_append, List.take_of_length_le (by omega), Nat.add_sub_cancel_left, List.drop_eq_nil_of_le (by omega), List.take_append_of_le_length (by omega), List.nil_append]
  rw [show A.length + j + vs.length - A.length = j + vs.length by omega, List.drop_append_of_le_length h]
  simp
theorem flat_over (C : Codec sz enc) {xs : List α} {k j : Nat} {x y : α} {vs : List Value} (hx : xs[k]? = some x) (hn : j + vs.length ≤ sz) (hy : over (enc x) j vs = enc y) : over (xs.flatMap enc) (k * sz + j) vs = (xs.set k y).flatMap enc := by
  obtain ⟨h1, h2⟩ := flat_split C hx
  have hl := C.len x
  have hlt := (List.getElem?_eq_some_iff.1 hx).1
  rw [h1, ← h2, over_mid _ _ _ _ _ (by omega), hy]
  have hy' : (xs.set k y)[k]? = some y := by rw [List.getElem?_set_self hlt]
  rw [(flat_split C hy').1, List.take_set_of_le (by omega), List.drop_set_of_lt (by omega)]
theorem over_whole {cs vs : List Value} (h : vs.length = cs.length) : over cs 0 vs = vs := by
  unfold over
  rw [List.drop_eq_nil_of_le (by omega)]
  simp
variable {G : α → Prop} {w w' : World} {S T : Nat → Prop} {a : Option Addr} {b o n : Nat} {xs : List α}
theorem Slc.ext (h : Slc w sz enc G a n xs) (hx : Ext S w w') (hS : ∀ b o, a = some ⟨b, o, none⟩ → ¬ S b) : Slc w' sz enc G a n xs :=
  ⟨h.len, h.max, fun k x hk => by
    obtain ⟨b, o, ha, hb, hc⟩ := h.cells k x hk
    exact ⟨b, o, ha, Nat.lt_of_lt_of_le hb hx.size, hx.cells hc (hS b o ha)⟩, h.good⟩
theorem Slc.no (h : Slc w sz enc G a n xs) (hx : Ext No w w') : Slc w' sz enc G a n xs := h.ext hx fun _ _ _ h => h
theorem Slc.at (h : Slc w sz enc G a n xs) {k : Nat} (hk : k < n) : ∃ b o x, xs[k]? = some x ∧ G x ∧ a = some ⟨b, o, none⟩ ∧ b < w.heap.size ∧ CellsAt w b (o + k * sz) (enc x) := by
  have hlt : k < xs.length := by rw [h.len]; exact hk
  obtain ⟨b, o, ha, hb, hc⟩ := h.cells k _ (List.getElem?_eq_getElem hlt)
  exact ⟨b, o, _, List.getElem?_eq_getElem hlt, h.good _ (List.getElem_mem hlt), ha, hb, hc⟩
theorem CellsAt.one {l : List Value} (h : CellsAt w b o l) (j : Nat) {v : Value} (hv : l[j]? = some v) : w.cell? ⟨b, o + j, none⟩ = some v := h j v hv
theorem Slc.of_cells (C : Codec sz enc) (hl : xs.length = n) (hm : n ≤ 9223372036854775807) (hg : ∀ x ∈ xs, G x) (hc : ∀ (j : Nat) v, (xs.flatMap enc)[j]? = some v → ∃ b o, a = some ⟨b, o, none⟩ ∧ w.cell? ⟨b, o + j, none⟩ = some v) : Slc w sz enc G a n xs :=
  ⟨hl, hm, fun k x hk => by
    have hp := C.pos
    have hlx := C.len x
    obtain ⟨v0, hv0⟩ : ∃ v, (enc x)[0]? = some v := ⟨_, List.getElem?_eq_getElem (by omega)⟩
    obtain ⟨b, o, ha, hc0⟩ := hc _ _ (flat_get C hk hv0)
    refine ⟨b, o, ha, cell_lt hc0, fun j v hj => ?_⟩
    obtain ⟨b', o', ha', hc'⟩ := hc _ _ (flat_get C hk hj)
    rw [ha] at ha'
    simp only [Option.some.injEq, Addr.mk.injEq, and_true] at ha'
    obtain ⟨rfl, rfl⟩ := ha'
    rw [Nat.add_assoc]
    exact hc', hg⟩
theorem Slc.of_blk (C : Codec sz enc) {t : TypeId} {cs : List Value} (h : Blk w b t cs) (hl : xs.length = n) (hm : n ≤ 9223372036854775807) (hg : ∀ x ∈ xs, G x) (hs : (cs.drop o).take (xs.length * sz) = xs.flatMap enc) : Slc w sz enc G (some ⟨b, o, none⟩) n xs :=
  Slc.of_cells C hl hm hg fun j v hj => ⟨b, o, rfl, by
    have hlt := (List.getElem?_eq_some_iff.1 hj).1
    rw [flat_len C] at hlt
    rw [h.cell, ← List.getElem?_drop, ← List.getElem?_take_of_lt hlt, hs]
    exact hj⟩

def ownL {α : Type} (e : TypeId) (sz : Nat) (enc : α → List Value) (v : Value) (xs : List α) : Ent := own e sz v xs.length (xs.flatMap enc)
theorem ownL_local {e : TypeId} {v : Value} : (ownL e sz enc v xs).Local := own_local _ _ _ _ _
theorem ownL_slc (C : Codec sz enc) {e : TypeId} {c : Nat} (h : (ownL e sz enc (.slice a n c) xs).holds w) (hg : ∀ x ∈ xs, G x) : Slc w sz enc G a n xs := by
  obtain ⟨h1, ⟨h2, h3⟩ | ⟨g, cap, cur, h2, h3, h4, h5, h6, h7, h8⟩⟩ := h
  · cases h2
    have hx : xs = [] := List.eq_nil_of_length_eq_zero h3
    subst hx
    exact ⟨rfl, by decide, by simp, by simp⟩
  · cases h2
    refine Slc.of_cells C rfl (by unfold maxLen at h6; omega) hg fun j v hj => ⟨g, 0, rfl, ?_⟩
    have hlt := (List.getElem?_eq_some_iff.1 hj).1
    rw [flat_len C] at hlt
    rw [← h8, List.getElem?_take_of_lt (by omega)] at hj
    simp only [World.cell?, h4, Nat.zero_add]
    simpa using hj
end

section
variable {P : Program} {α : Type} {sz : Nat} {enc : α → List Value} {w0 w w' : World} {S T : Nat → Prop} {H : List Ent}

theorem oneCell_of {v : Value} (h : isOne v = true) : v.oneCell' = true := by cases v <;> simp_all [isOne, Value.oneCell']

theorem grew (h : St w0 S w H) {i : Nat} {e : TypeId} {size : Nat} {v v' : Value} {n n' : Nat} {xs xs' : List Value} (hi : H[i]? = some (own e size v n xs)) (ho : w'.ownsRow 0 e size v' n' xs') (hg : w.grownBy w' v.ownBlock) (hb : v'.ownBlock = v.ownBlock ∨ v'.ownBlock = some w.heap.size) :
    St w0 S w' (H.set i (own e size v' n' xs')) := by
  refine h.upd i hi (Ext.of_grown hg) (fun q hq => by simp [own, hq]) (own_local _ _ _ _ _) ho ?_
  intro q hq
  have hq : v'.ownBlock = some q := by simpa [own] using hq
  rcases hb with hb | hb
  · left; simp only [own]; rw [← hb, hq]; simp
  · right
    rw [hb] at hq
    simp only [Option.some.injEq] at hq
    subst hq
    refine ⟨Nat.le_refl _, ?_⟩
    obtain ⟨_, ⟨h6, _⟩ | ⟨g, cap, cur, h6, _, h7, _⟩⟩ := ho
    · rw [h6] at hb; simp [Value.ownBlock] at hb
    · rw [h6] at hb
      simp only [Value.ownBlock, Option.some.injEq] at hb
      subst hb
      exact (Array.getElem?_eq_some_iff.1 h7).1

theorem St.appS (h : St w0 S w H) (C : Codec sz enc) (i : Nat) {t e : TypeId} {bytes : Nat} {z v : Value} {a : Option Addr} {m c : Nat} {G : α → Prop} {xs ys : List α} {k : Value → World → Prop}
    (hu : P.underlying t = some (.slice e)) (hs : (P.info? e).map (fun i => (i.size, i.bytes)) = some (sz, bytes)) (hz : (P.info? e).bind (·.zero) = some z) (hzs : Nat.beq z.cells.size sz = true)
    (hi : H[i]? = some (ownL e sz enc v xs)) (hy : Slc w sz enc G a m ys) (h63 : xs.length + m ≤ maxLen) (hbytes : (xs.length + m) * bytes ≤ 140737488355328)
    (hk : ∀ a' c' w', St w0 S w' (H.set i (ownL e sz enc (.slice a' (xs.length + m) c') (xs ++ ys))) → k (.slice a' (xs.length + m) c') w') :
    RunC P (Builtin.append_ #[t, t] 0 #[v, .slice a m c]) w k := by
  refine .loud (plain_append _ _ _) fun gn gd => ?_
  replace h := h.gap gn gd
  replace hy := hy.no (Ext.gap _ _ gn gd)
  generalize Gap.wgap w gn gd = w at h hy
  obtain ⟨ie, h1', h2⟩ := Option.map_eq_some_iff.1 hs
  obtain ⟨ie', h3, h4⟩ := Option.bind_eq_some_iff.1 hz
  obtain rfl := Option.some.inj (h1'.symm.trans h3)
  simp only [Prod.mk.injEq] at h2
  have hlen := hy.len
  have hen : xs.length + m = (xs ++ ys).length := by simp [hlen]
  have hef : (xs ++ ys).flatMap enc = xs.flatMap enc ++ ys.flatMap enc := by simp
  have form : ∀ (v' : Value) (w' : World), w'.ownsRow 0 e sz v' (xs.length + m) (xs.flatMap enc ++ ys.flatMap enc) → ∃ a' c', v' = .slice a' (xs.length + m) c' := by
    rintro v' w' ⟨_, ⟨h6, h7⟩ | ⟨g, cap, cur, h6, _⟩⟩
    · exact ⟨none, 0, by rw [h6, h7]⟩
    · exact ⟨_, _, h6⟩
  cases a with
  | none =>
    have hm : ys = [] := by
      cases ys with
      | nil => rfl
      | cons y ys => obtain ⟨b, o, ha, _⟩ := hy.cells 0 y rfl; cases ha
    subst hm
    have hm : m = 0 := by simpa using hlen.symm
    subst hm
    have ho := h.get i hi
    obtain ⟨a', c', hv⟩ := form v w (by simpa [ownL, own] using ho)
    subst hv
    have hle : xs.length ≤ c' := by
      obtain ⟨_, ⟨h6, h7⟩ | ⟨g, cap, cur, h6, _, _, h8, _⟩⟩ := ho
      · simp only [Value.slice.injEq] at h6; omega
      · simp only [Value.slice.injEq] at h6; omega
    refine ⟨.slice a' (xs.length + 0) c', w, ?_, hk a' c' w ?_⟩
    · refine run_append_nothing w t t 0 e ie hu h1' a' (xs.length + 0) c' hle (.slice none 0 c) ⟨.inl ⟨_, hu⟩, fun w' => rfl, rfl, rfl, by simp, by simp⟩
    · have : H.set i (ownL e sz enc (.slice a' (xs.length + 0) c') (xs ++ [])) = H := by
        rw [List.append_nil]
        obtain ⟨hl, he⟩ := List.getElem?_eq_some_iff.1 hi
        apply List.ext_getElem?
        intro j
        rw [List.getElem?_set]
        split
        · rename_i he'
          subst he'
          simp [hl, he]
        · rfl
      rw [this]
      exact h
  | some a =>
    have hsp : ∀ j u, (ys.flatMap enc)[j]? = some u → w.cell? (a.add j) = some u := by
      intro j u hj
      have hlt := (List.getElem?_eq_some_iff.1 hj).1
      rw [flat_len C] at hlt
      have hk : j / sz < ys.length := by rw [Nat.div_lt_iff_lt_mul C.pos]; exact hlt
      obtain ⟨b, o, ha, _, hc⟩ := hy.cells (j / sz) _ (List.getElem?_eq_getElem hk)
      simp only [Option.some.injEq] at ha
      subst ha
      rw [add_none]
      have e1 : j = j / sz * sz + j % sz := by rw [Nat.mul_comm]; exact (Nat.div_add_mod j sz).symm
      have hmod : j % sz < (enc ys[j / sz]).length := by rw [C.len]; exact Nat.mod_lt _ C.pos
      have h5 := flat_get C (List.getElem?_eq_getElem hk) (List.getElem?_eq_getElem hmod)
      rw [← e1, hj] at h5
      simp only [Option.some.injEq] at h5
      have := hc (j % sz) u (by rw [List.getElem?_eq_getElem hmod, h5])
      rw [Nat.add_assoc, ← e1] at this
      exact this
    obtain ⟨v', w', hr, ho, hg, hnil, hb⟩ := run_append_own_at (P := P) w 0 t 0 e ie z sz bytes hu h1' h4 h2.1 h2.2 (Nat.eq_of_beq_eq_true hzs) C.pos v xs.length (xs.flatMap enc) (h.get i hi) a m c (ys.flatMap enc) (by rw [flat_len C, hlen])
      hsp (fun u hu => oneCell_of (List.all_eq_true.1 (flat_one C ys) u hu)) h63 hbytes (Nat.zero_le _)
    obtain ⟨a', c', rfl⟩ := form v' w' ho
    refine ⟨_, _, hr, hk a' c' w' ?_⟩
    have := grew h hi ho hg hb
    simpa [ownL, hlen] using this

theorem over_len {cs vs : List Value} {o : Nat} (h : o + vs.length ≤ cs.length) : (over cs o vs).length = cs.length := by
  simp only [over, List.length_append, List.length_take, List.length_drop]
  omega
theorem over_take {cs vs : List Value} {o n : Nat} (h : o + vs.length ≤ n) (hn : n ≤ cs.length) : (over cs o vs).take n = over (cs.take n) o vs := by
  have e := over_mid [] (cs.take n) (cs.drop n) vs o (by rw [List.length_take]; omega)
  simp only [List.nil_append, List.length_nil, Nat.zero_add, List.take_append_drop] at e
  have hl : (over (cs.take n) o vs).length = n := by rw [over_len (by rw [List.length_take]; omega), List.length_take]; omega
  rw [e, List.take_append_of_le_length (by omega), List.take_of_length_le (by omega)]

theorem St.ownSt (h : St w0 S w H) (i : Nat) {e : TypeId} {size n o b : Nat} {n' c : Nat} {xs vs : List Value} {k : World → Prop} (hi : H[i]? = some (own e size (.slice (some ⟨b, 0, none⟩) n' c) n xs)) (hle : o + vs.length ≤ xs.length) (h1 : vs.all isOne = true)
    (hk : ∀ w', St w0 S w' (H.set i (own e size (.slice (some ⟨b, 0, none⟩) n' c) n (over xs o vs))) → k w') : StC w b o vs k := by
  obtain ⟨h2, ⟨h3, _⟩ | ⟨g, cap, cur, h3, h4, h5, h6, h7, h8, h9⟩⟩ := h.get i hi
  · cases h3
  cases h3
  have hcl : n * size ≤ cur.size := by rw [h8]; exact Nat.mul_le_mul_right _ h6
  have hb : Blk w b e cur.toList := by simpa [Blk] using h5
  have hx : xs.length = n * size := h2
  refine ⟨e, cur.toList, hb, by simp; omega, by simpa using h1, hk _ (h.upd i hi (T := (· = b)) (Ext.set (S := (· = b)) (b := b) rfl e _) (fun q hq => by simp [own, Value.ownBlock, hq]) (own_local _ _ _ _ _) ?_ fun q hq => .inl hq)⟩
  have hov : (over cur.toList o vs).length = cur.size := by
    have hl : o + vs.length ≤ cur.size := by omega
    simp only [over, List.length_append, List.length_take, List.length_drop, Array.length_toList]
    omega
  refine ⟨by simp only [over, List.length_append, List.length_take, List.length_drop]; omega, .inr ⟨b, c, (over cur.toList o vs).toArray, rfl, h4, ?_, h6, h7, by rw [List.size_toArray, hov, h8], ?_⟩⟩
  · have := setBlk_blk (t := e) (cs := over cur.toList o vs) hb.lt
    exact this
  · rw [List.toList_toArray, over_take (by omega) (by simpa using hcl), h9]
end
end Go.Proofs.YtgcbcagaibecbaaGreatDoor.Ev

namespace Go.Proofs.YtgcbcagaibecbaaGreatDoor.Ev
set_option maxRecDepth 20000
open Go
variable [Go.Proofs.YtgcbcagaibecbaaGreatDoor.Gap.Leaps]
section
variable {P : Program} {τ : Tab} {N d : Nat} {σ : Slots} {w : World} {ops rest : List Oper} {x y : Operand} {v : Value} {ty : TypeId} {pos : String} {after : Array Edge} {Q : Slots → World → Prop}
end

theorem St.stX {w0 w : World} {S : Nat → Prop} {H : List Ent} (h : St w0 S w H) (i : Nat) {b o : Nat} {t : TypeId} {cs vs : List Value} {k : World → Prop} (hi : H[i]? = some (Ev.blk b t cs)) (hle : o + vs.length ≤ cs.length) (h1 : vs.all isOne = true)
    (hk : ∀ w', Ext (· = b) w w' → St w0 S w' (H.set i (Ev.blk b t (over cs o vs))) → k w') : StC w b o vs k := by
  have hb := h.blk i hi
  have hx : Ext (· = b) w (setBlk w b t (over cs o vs)) := Ext.set (S := (· = b)) (b := b) rfl t _
  exact ⟨t, cs, hb, hle, by simpa using h1, hk _ hx (h.upd i hi (T := (· = b)) hx (fun c hc => by simp [Ev.blk, hc]) (blk_local _ _ _) (setBlk_blk hb.lt) (fun c hc => .inl hc))⟩

end Go.Proofs.YtgcbcagaibecbaaGreatDoor.Ev

namespace Go.Proofs.YtgcbcagaibecbaaGreatDoor.Ev
set_option maxRecDepth 20000
open Go Gap
variable [Go.Proofs.YtgcbcagaibecbaaGreatDoor.Gap.Leaps]

inductive OT where
  | fin
  | take (i : Nat) (r : OT)
  | alt (i : Nat) (r : OT) (more : OT)

def OT.heads : OT → List Nat
  | .alt i _ m => i :: m.heads
  | _ => []

def evOne (P : Program) (τ : Tab) (N : Nat) (ops : Array Oper) (late : List Nat) (S : World → Prop) (i : Nat) (K : Slots → World → Prop) (σ : Slots) (w : World) : Prop :=
  match nthO ops.toList i with
  | some ⟨dst, op, _, _, _, g⟩ => guardK N ops.toList g σ
      (fun σ => match isPure op with
        | true => pureOp P τ σ op fun v => put1 N dst v σ fun σ => K σ w
        | false => match floats late i op with
          | true => (match op with
            | .load t x => match ro σ x, tl τ t with
              | some (.pointer (some ⟨b, o, none⟩)), some ⟨n, kd, _⟩ => (match kd.agg with
                | true => LdG S b o n fun v => put1 N dst v σ fun σ => K σ w
                | false => LdF S b o fun v => put1 N dst v σ fun σ => K σ w)
              | _, _ => False
            | _ => False)
          | false => worldOp P τ σ op w fun v w => KeepC (S w) (put1 N dst v σ fun σ => K σ w))
      (fun σ => put1 N dst undef σ fun σ => K σ w)
  | none => False

def evTree (P : Program) (τ : Tab) (N : Nat) (ops : Array Oper) (late : List Nat) (S : World → Prop) : OT → (Slots → World → Prop) → Slots → World → Prop
  | .fin, Q, σ, w => Q σ w
  | .take i r, Q, σ, w => evOne P τ N ops late S i (fun σ w => evTree P τ N ops late S r Q σ w) σ w
  | .alt i r .fin, Q, σ, w => evOne P τ N ops late S i (fun σ w => evTree P τ N ops late S r Q σ w) σ w
  | .alt i r m, Q, σ, w => evOne P τ N ops late S i (fun σ w => evTree P τ N ops late S r Q σ w) σ w ∧ evTree P τ N ops late S m Q σ w

def fl (ops : Array Oper) (late : List Nat) (i : Nat) : Bool := match ops[i]? with
  | some o => floats late i o.op
  | none => false

def treeOk (ops : Array Oper) (late : List Nat) : OT → Nat → Bool → Array Bool → Bool
  | .fin, n, chain, listed => chain || (Nat.beq n 0 && (Region.ready .any ops listed).isEmpty)
  | .take i r, n + 1, chain, listed => !chain && fl ops late i && Region.free .any ops listed i && (Region.ready .any ops listed).contains i && treeOk ops late r n false (listed.setIfInBounds i true)
  | .alt i r m, n + 1, chain, listed => (chain || Region.ready .any ops listed == i :: m.heads) && (ops[i]?).isSome && !fl ops late i && treeOk ops late r n false (listed.setIfInBounds i true) && treeOk ops late m (n + 1) true listed
  | _, 0, _, _ => false

section
variable {P : Program} {τ : Tab} {N : Nat}

theorem one_take (hτ : TabOk P τ) {ops : Array Oper} {late : List Nat} {S : World → Prop} {R : Exit → Act → World → Prop} (hs : Region.noSelect ops = true) {i fuel : Nat} {listed : Array Bool} {K : Slots → World → Prop} {σ : Slots} {a : Act} {w : World}
    (hf : Fits N σ a) (hS : S w) (h0 : fl ops late i = true) (h1 : Region.free .any ops listed i = true) (h2 : (Region.ready .any ops listed).contains i = true) (h : evOne P τ N ops late S i K σ w)
    (hK : ∀ σ a, Fits N σ a → K σ w → AnyG P ops R S fuel (listed.setIfInBounds i true) a w) : AnyG P ops R S (fuel + 1) listed a w := by
  unfold evOne at h
  rw [nthO_eq] at h
  cases ho : ops[i]? with
  | none =>
    have : ops.toList[i]? = none := by simpa using ho
    rw [this] at h; exact h.elim
  | some o =>
    have hol : ops.toList[i]? = some o := by simpa using ho
    rw [hol] at h
    unfold fl at h0
    rw [ho] at h0
    obtain ⟨dst, op, ty, pos, after, g⟩ := o
    simp only at h h0
    have take : ∀ (v : Value), YieldsG P ops S ⟨dst, op, ty, pos, after, g⟩ v a → AnyG P ops R S fuel (listed.setIfInBounds i true) (a.put dst v) w → AnyG P ops R S (fuel + 1) listed a w := by
      intro v hy hgo
      exact anyG_take (oi := ⟨dst, op, ty, pos, after, g⟩) ho hs h1 h2 hy hS hgo
    rcases guard_sound (o := ⟨dst, op, ty, pos, after, g⟩) hf h with ⟨hw, σ', hf', h2⟩ | ⟨hw, σ', hf', h2⟩
    · cases hp : isPure op with
      | true =>
        rw [hp] at h2
        have hp' := pure_plain (o := ⟨dst, op, ty, pos, after, g⟩) hτ hf' h2
        obtain ⟨v, hv, h3⟩ := pure_sound (o := ⟨dst, op, ty, pos, after, g⟩) hτ hf' h2
        obtain ⟨σ'', hf'', h4⟩ := put1_sound hf' h3
        exact take v (.inl ⟨hw, fun w _ => .of hp' (hv w) rfl rfl⟩) (hK σ'' _ hf'' h4)
      | false =>
        rw [hp] at h2
        simp only at h2
        rw [h0] at h2
        simp only at h2
        split at h2
        · rename_i t x
          split at h2
          · rename_i b o n kd z hx ht
            have hyield : ∃ v, (∀ w, S w → (Instr.loadAt t (.pointer (some ⟨b, o, none⟩))).run P w = .ok v w) ∧ put1 N dst v σ' fun σ => K σ w := by
              cases hk : kd.agg with
              | true =>
                rw [hk] at h2
                obtain ⟨l, hl, hc, hv⟩ := h2.ex
                refine ⟨_, fun w' hw' => ?_, hv⟩
                obtain ⟨v, hr, hv⟩ := load_sound (P := P) (w := w') (b := b) (o := o) (k := fun v => v = .agg l.toArray) hτ ht (by rw [hk]; exact ⟨l, hl, hc w' hw', rfl⟩)
                rw [hr, hv]
              | false =>
                rw [hk] at h2
                obtain ⟨v, hc, hv⟩ := h2.ex
                refine ⟨v, fun w' hw' => ?_, hv⟩
                obtain ⟨u, hr, hu⟩ := load_sound (P := P) (w := w') (b := b) (o := o) (k := fun u => u = v) hτ ht (by rw [hk]; exact ⟨v, hc w' hw', rfl⟩)
                rw [hr, hu]
            obtain ⟨v, hv, h3⟩ := hyield
            obtain ⟨σ'', hf'', h4⟩ := put1_sound hf' h3
            refine take v (.inl ⟨hw, fun w' hw' => ?_⟩) (hK σ'' _ hf'' h4)
            refine .of ?_ ?_ rfl rfl
            · simp only [execOp]
              exact plain_v (plain_loadAt _ _)
            · simp only [execOp, ro_eval hf' hx]
              exact vrun (hv w' hw')
          · exact h2.elim
        · exact h2.elim
    · obtain ⟨σ'', hf'', h4⟩ := put1_sound hf' h2
      exact take undef (.inr ⟨hw, rfl⟩) (hK σ'' _ hf'' h4)

theorem one_alt (hτ : TabOk P τ) {ops : Array Oper} {late : List Nat} {S : World → Prop} {R : Exit → Act → World → Prop} {i fuel : Nat} {listed : Array Bool} {K : Slots → World → Prop} {σ : Slots} {a : Act} {w : World}
    (hf : Fits N σ a) (hS : S w) (h0 : fl ops late i = false) (h : evOne P τ N ops late S i K σ w)
    (hK : ∀ σ a w, Fits N σ a → S w → K σ w → AnyG P ops R S fuel (listed.setIfInBounds i true) a w) : gOpAt P ops i (fun a' w' => S w' ∧ AnyG P ops R S fuel (listed.setIfInBounds i true) a' w') a w := by
  unfold evOne at h
  rw [nthO_eq] at h
  cases ho : ops[i]? with
  | none =>
    have : ops.toList[i]? = none := by simpa using ho
    rw [this] at h; exact h.elim
  | some o =>
    have hol : ops.toList[i]? = some o := by simpa using ho
    rw [hol] at h
    unfold fl at h0
    rw [ho] at h0
    obtain ⟨dst, op, ty, pos, after, g⟩ := o
    simp only at h h0
    unfold gOpAt
    rw [ho]
    rcases guard_sound (o := ⟨dst, op, ty, pos, after, g⟩) hf h with ⟨hw, σ', hf', h2⟩ | ⟨hw, σ', hf', h2⟩
    · cases hp : isPure op with
      | true => simp [floats, hp] at h0
      | false =>
        rw [hp] at h2
        simp only at h2
        rw [h0] at h2
        simp only at h2
        simp only [hw, if_true]
        refine gOp_mono ?_ (world_sound (o := ⟨dst, op, ty, pos, after, g⟩) hτ hf' h2)
        rintro a' w' ⟨v, rfl, h3⟩
        obtain ⟨σ'', hf'', h4⟩ := put1_sound hf' h3.go
        exact ⟨h3.keep, hK σ'' _ w' hf'' h3.keep h4⟩
    · obtain ⟨σ'', hf'', h4⟩ := put1_sound hf' h2
      simp only [hw, Bool.false_eq_true, if_false]
      exact ⟨hS, hK σ'' _ w hf'' hS h4⟩

theorem tree_sound (hτ : TabOk P τ) {ops : Array Oper} {late : List Nat} {S : World → Prop} {Q : Slots → World → Prop} {R : Exit → Act → World → Prop} (hs : Region.noSelect ops = true) (hQ : ∀ a w σ, Fits N σ a → Q σ w → R .normal a w) :
    ∀ (tr : OT) (n : Nat) (listed : Array Bool) (σ : Slots) (a : Act) (w : World), Fits N σ a → S w →
      (treeOk ops late tr n false listed = true → evTree P τ N ops late S tr Q σ w → AnyG P ops R S n listed a w) ∧
      (∀ m, n = m + 1 → treeOk ops late tr n true listed = true → (tr = .fin ∨ evTree P τ N ops late S tr Q σ w) → ∀ i ∈ tr.heads, gOpAt P ops i (fun a' w' => S w' ∧ AnyG P ops R S m (listed.setIfInBounds i true) a' w') a w)
  | .fin, n, listed, σ, a, w, hf, hS => by
    refine ⟨fun hok h => ?_, fun m hm hok h i hi => by cases hi⟩
    cases n with
    | succ n => simp [treeOk] at hok
    | zero =>
      simp only [treeOk, Bool.false_or, Bool.and_eq_true, List.isEmpty_iff] at hok
      exact ⟨hok.2, hQ a w σ hf h⟩
  | .take i r, n, listed, σ, a, w, hf, hS => by
    cases n with
    | zero => exact ⟨fun hok => by simp [treeOk] at hok, fun m hm => by omega⟩
    | succ n =>
      refine ⟨fun hok h => ?_, fun m hm hok => by simp [treeOk] at hok⟩
      simp only [treeOk, Bool.not_false, Bool.true_and, Bool.and_eq_true] at hok
      obtain ⟨⟨⟨h0, h1⟩, h2⟩, h3⟩ := hok
      unfold evTree at h
      exact one_take hτ hs hf hS h0 h1 h2 h fun σ a hf hk => (tree_sound hτ hs hQ r n _ σ a w hf hS).1 h3 hk
  | .alt i r m, n, listed, σ, a, w, hf, hS => by
    cases n with
    | zero => exact ⟨fun hok => by simp [treeOk] at hok, fun m hm => by omega⟩
    | succ n =>
      have key : ∀ chain, treeOk ops late (.alt i r m) (n + 1) chain listed = true → evTree P τ N ops late S (.alt i r m) Q σ w → ∀ j ∈ (OT.alt i r m).heads, gOpAt P ops j (fun a' w' => S w' ∧ AnyG P ops R S n (listed.setIfInBounds j true) a' w') a w := by
        intro chain hok h j hj
        simp only [treeOk, Bool.and_eq_true, Bool.not_eq_true'] at hok
        obtain ⟨⟨⟨⟨_, _⟩, h0⟩, h3⟩, h4⟩ := hok
        have hb : evOne P τ N ops late S i (fun σ w => evTree P τ N ops late S r Q σ w) σ w ∧ (m = .fin ∨ evTree P τ N ops late S m Q σ w) := by
          cases m with
          | fin => unfold evTree at h; exact ⟨h, .inl rfl⟩
          | take i' r' => unfold evTree at h; exact ⟨h.1, .inr h.2⟩
          | alt i' r' m' => unfold evTree at h; exact ⟨h.1, .inr h.2⟩
        simp only [OT.heads, List.mem_cons] at hj
        rcases hj with rfl | hj
        · exact one_alt hτ hf hS h0 hb.1 fun σ a w hf hS hk => (tree_sound hτ hs hQ r n _ σ a w hf hS).1 h3 hk
        · exact (tree_sound hτ hs hQ m (n + 1) listed σ a w hf hS).2 n rfl h4 hb.2 j hj
      refine ⟨fun hok h => ?_, fun m' hm hok h => ?_⟩
      · have hr : Region.ready .any ops listed = (OT.alt i r m).heads := by
          simp only [treeOk, Bool.false_or, Bool.and_eq_true, beq_iff_eq] at hok
          exact hok.1.1.1.1
        exact anyG_all hr (by simp [OT.heads]) (key false hok h)
      · obtain rfl : n = m' := by omega
        rcases h with h | h
        · cases h
        · exact key true hok h

def evTreeR (P : Program) (τ : Tab) (N : Nat) (ops : Array Oper) (late : List Nat) (S : World → Prop) (Q : Slots → World → Prop) (t : OT) : Slots → World → Prop :=
  OT.rec (motive := fun _ => Slots → World → Prop) Q (fun i _ ih => evOne P τ N ops late S i ih) (fun i _ m ih im σ w => match m with | .fin => evOne P τ N ops late S i ih σ w | _ => evOne P τ N ops late S i ih σ w ∧ im σ w) t
theorem evTreeR_eq (P : Program) (τ : Tab) (N : Nat) (ops : Array Oper) (late : List Nat) (S : World → Prop) (Q : Slots → World → Prop) : ∀ t : OT, evTreeR P τ N ops late S Q t = fun σ w => evTree P τ N ops late S t Q σ w
  | .fin => by funext σ w; unfold evTree; rfl
  | .take i r => by
    have ih := evTreeR_eq P τ N ops late S Q r
    show evOne P τ N ops late S i (evTreeR P τ N ops late S Q r) = _
    rw [ih]
    funext σ w
    rw [evTree]
  | .alt i r m => by
    have ih := evTreeR_eq P τ N ops late S Q r
    have im := evTreeR_eq P τ N ops late S Q m
    funext σ w
    show (match m with | .fin => evOne P τ N ops late S i (evTreeR P τ N ops late S Q r) σ w | _ => evOne P τ N ops late S i (evTreeR P τ N ops late S Q r) σ w ∧ evTreeR P τ N ops late S Q m σ w) = _
    rw [ih, im]
    cases m <;> rw [evTree]
    all_goals intro h; cases h

theorem drawT (hτ : TabOk P τ) (hm : P.follows .mixedOrders = true) {σ : Slots} {w : World} {ops : Array Oper} {Q : Slots → World → Prop} (late : List Nat) (T : Nat → Prop) (tr : OT)
    (hok : (Region.noSelect ops && treeOk ops late tr ops.size false (Array.replicate ops.size false)) = true)
    (h : ∀ w1, w1 = { w with drawn := w.drawn + 1 } → evTreeR P τ N ops late (Ext T w1) Q tr σ w1) : DrawC P τ N ops Q σ w := by
  replace h : ∀ w1, w1 = { w with drawn := w.drawn + 1 } → evTree P τ N ops late (Ext T w1) tr Q σ w1 := fun w1 h1 => by have := h w1 h1; rwa [evTreeR_eq] at this
  simp only [Bool.and_eq_true] at hok
  refine ⟨fun id a hf => ?_⟩
  refine gwp_region_held (S := Ext T { w with drawn := w.drawn + 1 }) hm ?_
  exact (tree_sound (R := fun e a' w' => e = .normal ∧ ∃ σ', Fits N σ' a' ∧ Q σ' w') hτ hok.1 (fun a w σ hf hq => ⟨rfl, σ, hf, hq⟩) tr _ _ σ a _ hf (Ext.refl _ _)).1 hok.2 (h _ rfl)
end

structure CutE (M : Slots → World → Prop) (σ : Slots) (w : World) : Prop where
  ex : ∃ σ', Sub σ' σ ∧ M σ' w
theorem DrawC.cut {P : Program} {τ : Tab} {N : Nat} {ops : Array Oper} {Q : Slots → World → Prop} {σ : Slots} {w : World} (M : Slots → World → Prop) (h : DrawC P τ N ops (CutE M) σ w) (hQ : ∀ σ w, M σ w → Q σ w) : DrawC P τ N ops Q σ w :=
  ⟨fun id a hf => gwp_mono (h.go id a hf) fun e a' w' ⟨he, σ', hf', hm⟩ => by
    obtain ⟨σ'', hs, hm⟩ := hm.ex
    exact ⟨he, σ'', hf'.weaken hs.look_, hQ _ _ hm⟩⟩
end Go.Proofs.YtgcbcagaibecbaaGreatDoor.Ev

namespace Go.Proofs.YtgcbcagaibecbaaGreatDoor.Ev
set_option maxRecDepth 20000
open Go Gap
variable [Go.Proofs.YtgcbcagaibecbaaGreatDoor.Gap.Leaps]

section
variable {P : Program} {τ : Tab} {N : Nat} {σ σ' : Slots} {w : World} {Q : EQ}

end
end Go.Proofs.YtgcbcagaibecbaaGreatDoor.Ev
namespace Go.Proofs.YtgcbcagaibecbaaGreatDoor.Ev
open Go
variable [Go.Proofs.YtgcbcagaibecbaaGreatDoor.Gap.Leaps]
end Go.Proofs.YtgcbcagaibecbaaGreatDoor.Ev

namespace Go.Proofs.YtgcbcagaibecbaaGreatDoor.Ev
set_option maxRecDepth 20000
open Go
variable [Go.Proofs.YtgcbcagaibecbaaGreatDoor.Gap.Leaps]

def bs (l : List UInt8) : ByteArray := ⟨l.toArray⟩
theorem bs_of (s : ByteArray) : ∃ l, s = bs l := ⟨s.data.toList, by simp [bs]⟩
theorem bs_inj {a b : List UInt8} : bs a = bs b ↔ a = b := by
  constructor
  · intro h
    have := congrArg (fun s => s.data.toList) h
    simpa [bs] using this
  · rintro rfl; rfl
theorem bs_size (l : List UInt8) : (bs l).size = l.length := by simp [bs, ByteArray.size]
theorem bs_append (a b : List UInt8) : bs a ++ bs b = bs (a ++ b) := by
  apply ByteArray.ext
  simp [bs, ByteArray.data_append]
theorem bs_extract (l : List UInt8) (a b : Nat) : (bs l).extract a b = bs ((l.drop a).take (b - a)) := ByteArray.extract_mk l a b
def encU (x : UInt8) : List Value := [.int .u8 (x.toNat : Int)]
theorem codU : Codec 1 encU := ⟨fun _ => rfl, fun _ => rfl, by decide⟩

section
variable {P : Program} {k : Value → Prop} {l : List UInt8} {t : TypeId}
theorem idxS {kd : IntKind} {i : Int} {j : Nat} {x : UInt8} (hu : P.underlying t = some .string) (hi : i = (j : Int)) (hx : l[j]? = some x) (hk : k (.int .u8 (x.toNat : Int))) : PureC P (Instr.index t (.string (bs l)) (.int kd i)) k := by
  subst hi
  refine PureC.of (fun w => ?_) hk
  have lt := (List.getElem?_eq_some_iff.1 hx).1
  rw [run_index_string w t (bs l) kd j hu, dif_pos ⟨by omega, by rw [bs_size]; omega⟩]
  congr 1
  have : (bs l)[j]? = some x := by
    rw [ByteArray.getElem?_lt' _ _ (by rw [bs_size]; exact lt)]
    show some ((bs l).data[j]) = _
    rw [← hx, List.getElem?_eq_getElem lt]
    simp [bs]
  have h2 : (bs l)[j]'(by rw [bs_size]; exact lt) = x := by
    rw [ByteArray.getElem?_lt' _ _ (by rw [bs_size]; exact lt)] at this
    exact Option.some.inj this
  simp [h2]
theorem slc_at (hu : P.underlying t = some .string) (x : Value) (lo hi : Option Value) (w : World) : (Instr.sliceAt t x lo hi none).run P w = (Instr.slice t x lo hi none).run P w := by
  unfold Instr.sliceAt
  rw [Sem.run_bind, run_underlying hu, Result.andThen_ok]
theorem slcS {q q' : IntKind} {i j : Int} {a b : Nat} {r : List UInt8} (hu : P.underlying t = some .string) (hi : i = (a : Int)) (hj : j = (b : Int)) (hab : a ≤ b) (hb : b ≤ l.length) (hr : (l.drop a).take (b - a) = r) (hk : k (.string (bs r))) : PureC P (Instr.sliceAt t (.string (bs l)) (some (.int q i)) (some (.int q' j)) none) k := by
  subst hi hj hr
  refine PureC.of (fun w => ?_) hk
  rw [slc_at hu, run_slice_string w t (bs l) q q' a b hu (by omega) (by omega) (by rw [bs_size]; omega), bs_extract]
  rfl
theorem slcTo {q' : IntKind} {j : Int} {b : Nat} {r : List UInt8} (hu : P.underlying t = some .string) (hj : j = (b : Int)) (hb : b ≤ l.length) (hr : l.take b = r) (hk : k (.string (bs r))) : PureC P (Instr.sliceAt t (.string (bs l)) none (some (.int q' j)) none) k := by
  subst hj hr
  refine PureC.of (fun w => ?_) hk
  rw [slc_at hu, run_slice_string_to_if w t (bs l) q' b hu, if_pos ⟨by omega, by rw [bs_size]; omega⟩, bs_extract]
  rfl
theorem slcFrom {q' : IntKind} {j : Int} {b : Nat} {r : List UInt8} (hu : P.underlying t = some .string) (hj : j = (b : Int)) (hb : b ≤ l.length) (hr : l.drop b = r) (hk : k (.string (bs r))) : PureC P (Instr.sliceAt t (.string (bs l)) (some (.int q' j)) none none) k := by
  subst hj hr
  refine PureC.of (fun w => ?_) hk
  rw [slc_at hu, run_slice_string_from_if w t (bs l) q' b hu, if_pos ⟨by omega, by rw [bs_size]; omega⟩, bs_extract, bs_size]
  simp only [Int.toNat_natCast]
  rw [List.take_of_length_le (by simp)]
theorem addS {a b : List UInt8} (h : a.length + b.length ≤ 1000000) (hk : k (.string (bs (a ++ b)))) : PureC P (Go.binOp .add t (.string (bs a)) (.string (bs b))) k :=
  PureC.of (fun w => by
    rw [show Go.binOp .add t (.string (bs a)) (.string (bs b)) = Op.stringOp .add (bs a) (bs b) from rfl, run_string_add_sum w _ _ (by rw [bs_size, bs_size]; omega), bs_append]) hk
theorem eqS2 {a b : List UInt8} (hk : k (.bool (decide (a = b)))) : PureC P (Go.binOp .eql t (.string (bs a)) (.string (bs b))) k := eqStr (by
  have : decide (bs a = bs b) = decide (a = b) := by simp only [bs_inj]
  rw [this]; exact hk)
theorem neS2 {a b : List UInt8} (hk : k (.bool (!decide (a = b)))) : PureC P (Go.binOp .neq t (.string (bs a)) (.string (bs b))) k := neStr (by
  have : decide (bs a = bs b) = decide (a = b) := by simp only [bs_inj]
  rw [this]; exact hk)
theorem convI {s d : TypeId} {q : IntKind} {n m : Int} {kd : IntKind} (hs : (P.underlying s).isSome = true) (hd : P.underlying d = some (.int kd)) (hw : kd.wrap n = m) {w : World} {kk : Value → World → Prop} (hk : kk (.int kd m) w) : RunC P (Go.convert s d (.int q n)) w kk := by
  have hk2 : P.intKind d = kd := by unfold Program.intKind; rw [hd]
  refine .quiet ?_ (by rw [run_convert_int w s d q n hs (by rw [hk2]; exact hd), hk2, hw]) rfl rfl hk
  obtain ⟨ds, hs⟩ := Option.isSome_iff_exists.1 hs
  show Gap.Plain P (Go.convert s d (.int q n))
  unfold Go.convert
  refine Gap.plain_under_of hs (Gap.plain_under_of hd ?_)
  trivial
theorem shrC {kd yk : IntKind} {a : Int} {n : Nat} {y : Int} (hy : y = (n : Int)) (hn : n ≤ kd.bits) (hk : k (.int kd (a / 2 ^ n))) : PureC P (Go.binOp .shr t (.int kd a) (.int yk y)) k := by
  subst hy
  refine PureC.of (fun w => ?_) hk
  show (Op.shift .shr kd a yk n).run P w = _
  unfold Op.shift
  rw [if_neg (by omega)]
  simp only [Int.toNat_natCast, Nat.min_eq_left hn]
  rw [show ((2 : Int) ^ n) = ((2 ^ n : Nat) : Int) by simp, Int.fdiv_eq_ediv_of_nonneg _ (by exact Int.natCast_nonneg _)]
  rfl
theorem shrN {kd yk : IntKind} {a n : Nat} {y : Int} (hy : y = (n : Int)) (hn : n ≤ kd.bits) (hk : k (.int kd ((a / 2 ^ n : Nat) : Int))) : PureC P (Go.binOp .shr t (.int kd (a : Int)) (.int yk y)) k :=
  shrC hy hn (by
    have : ((a : Int) / 2 ^ n) = ((a / 2 ^ n : Nat) : Int) := by simp
    rw [this]; exact hk)
theorem shlC {kd yk : IntKind} {a : Int} {n : Nat} {y m : Int} (hy : y = (n : Int)) (hn : n ≤ kd.bits) (hw : kd.wrap (a * 2 ^ n) = m) (hk : k (.int kd m)) : PureC P (Go.binOp .shl t (.int kd a) (.int yk y)) k := by
  subst hy hw
  refine PureC.of (fun w => ?_) hk
  show (Op.shift .shl kd a yk n).run P w = _
  unfold Op.shift
  rw [if_neg (by omega)]
  simp only [Int.toNat_natCast, Nat.min_eq_left hn]
  rfl
theorem bitsC {op : BinOp} {kd : IntKind} {a b r : Int} (ho : op = .xor ∨ op = .or ∨ op = .and ∨ op = .andNot) (hr : ∀ w, (Op.intBits op kd a b).run P w = .ok (.int kd r) w) (hk : k (.int kd r)) : PureC P (Go.binOp op t (.int kd a) (.int kd b)) k :=
  PureC.of (fun w => by
    rw [← hr w]
    rcases ho with rfl | rfl | rfl | rfl <;> simp [Go.binOp]) hk
theorem eqC {kd : IntKind} {a b : Int} (hk : k (.bool (a == b))) : PureC P (Go.binOp .eql t (.int kd a) (.int kd b)) k :=
  PureC.of (fun w => by simp [Go.binOp, Op.intCmp]) hk
theorem strC {w : World} {src dst e : TypeId} {b o n c : Nat} {kk : Value → World → Prop} (hs : P.underlying src = some (.slice e)) (he : P.underlying e = some (.int .u8)) (hd : P.underlying dst = some .string) (hc : CellsAt w b o (l.flatMap encU)) (hl : l.length = n) (hk : kk (.string (bs l)) w) :
    RunC P (Go.convert src dst (.slice (some ⟨b, o, none⟩) n c)) w kk := by
  refine .quiet ?_ (run_convert_bytes_arg w src e hs he b o n c (l.map fun x => (x.toNat : Int)) (by simpa using hl) (fun i hi => ?_) dst hd) rfl rfl ?_
  · unfold Go.convert
    refine Gap.plain_under_of hs (Gap.plain_under_of hd ?_)
    exact Gap.plain_under_of he (Gap.plain_bytesToString _)
  · have hlt : i < l.length := by omega
    have := hc i (.int .u8 (l[i].toNat : Int)) (by
      have := flat_get codU (j := 0) (List.getElem?_eq_getElem hlt) rfl
      simpa [encU] using this)
    rw [this]
    simp [List.getD, hlt]
  · have : strOfNums (l.map fun x => (x.toNat : Int)) = bs l := by
      unfold strOfNums bs
      congr 2
      rw [List.map_map]
      conv => rhs; rw [← List.map_id l]
      apply List.map_congr_left
      intro x _
      simp
    rw [this]
    exact hk
theorem made_rep (v : Value) (n : Nat) : (madeCells #[v] n).toList = List.replicate n v := by
  unfold madeCells
  apply List.ext_getElem?
  intro i
  by_cases h : i < n
  · simp [h, Nat.mod_one]
  · simp [h]
end
end Go.Proofs.YtgcbcagaibecbaaGreatDoor.Ev
namespace Go.Proofs.YtgcbcagaibecbaaGreatDoor
open Go Ev Gap
variable [Go.Proofs.YtgcbcagaibecbaaGreatDoor.Gap.Leaps]
theorem Ev.ldc {w : World} {b o : Nat} {v : Value} {k : Value → Prop} (hc : w.cell? ⟨b, o, none⟩ = some v) (hk : k v) : LdC w b o k := ⟨v, hc, hk⟩
theorem Ev.ldFc {w : World} {T : Nat → Prop} {b o : Nat} {v : Value} {k : Value → Prop} (hc : w.cell? ⟨b, o, none⟩ = some v) (hT : ¬ T b) (hk : k v) : LdF (Ext T w) b o k := ⟨v, fun _ hw => hw.cell hc hT, hk⟩
theorem Ev.St.ownX {w0 w : World} {S : Nat → Prop} {H : List Ent} (h : St w0 S w H) (i : Nat) {e : TypeId} {size n o b : Nat} {n' c : Nat} {xs vs : List Value} {k : World → Prop} (hi : H[i]? = some (own e size (.slice (some ⟨b, 0, none⟩) n' c) n xs)) (hle : o + vs.length ≤ xs.length) (h1 : vs.all isOne = true)
    (hk : ∀ w', Ext (· = b) w w' → St w0 S w' (H.set i (own e size (.slice (some ⟨b, 0, none⟩) n' c) n (over xs o vs))) → k w') : StC w b o vs k := by
  obtain ⟨t, cs, hb, hl, ho, _⟩ := (h.ownSt i hi hle h1 (k := fun _ => True) fun _ _ => trivial).ex
  have h2 := h.ownSt i hi hle h1 (k := fun w' => Ext (· = b) w w' → k w') fun w' hS hx => hk w' hx hS
  obtain ⟨t', cs', hb', hl', ho', hk'⟩ := h2.ex
  exact ⟨t', cs', hb', hl', ho', hk' (Ext.set (S := (· = b)) (b := b) rfl t' _)⟩

theorem Ev.St.mkSlice {P : Program} {α : Type} {w0 w : World} {S : Nat → Prop} {H : List Ent} (h : St w0 S w H) {t e : TypeId} {sz bytes n : Nat} {z : Value} {enc : α → List Value} {xs : List α} {kl kc : IntKind} {k : Value → World → Prop}
    (hu : P.underlying t = some (.slice e)) (hs : (P.info? e).map (fun i => (i.size, i.bytes)) = some (sz, bytes)) (hz : (P.info? e).bind (·.zero) = some z) (h1 : n * sz ≤ 16777216) (h2 : bytes * n ≤ 281474976710656) (h3 : n ≤ maxLen)
    (hl : xs.length = n) (hcs : (madeCells z.cells (n * sz)).toList = xs.flatMap enc)
    (hk : ∀ b w', w0.heap.size ≤ b → St w0 S w' (H ++ [ownL e sz enc (.slice (some ⟨b, 0, none⟩) n n) xs]) → k (.slice (some ⟨b, 0, none⟩) n n) w') : RunC P (Instr.makeSlice t (.int kl (n : Int)) (.int kc (n : Int))) w k := by
  obtain ⟨ie, e1, e2⟩ := Option.map_eq_some_iff.1 hs
  obtain ⟨ie', e3, e4⟩ := Option.bind_eq_some_iff.1 hz
  obtain rfl := Option.some.inj (e1.symm.trans e3)
  simp only [Prod.mk.injEq] at e2
  refine .loud (Gap.plain_makeSlice _ _ _) fun gn gd => ?_
  replace h := h.gap gn gd
  generalize Gap.wgap w gn gd = w at h
  obtain ⟨w', hr, ho, hg⟩ := run_makeSlice_full (P := P) w 0 t e ie z sz hu e1 e4 e2.1 kl kc n h1 (by rw [e2.2]; exact h2) h3 (Nat.zero_le _)
  refine ⟨_, _, hr, hk _ _ h.ext.size (h.made (Ext.of_grown hg |>.mono fun _ hb => by cases hb) ownL_local ?_ ?_)⟩
  · unfold ownL own
    rw [hl, ← hcs]
    exact ho
  · intro b hb
    obtain rfl : b = w.heap.size := by simpa [ownL, own, Value.ownBlock] using hb
    refine ⟨Nat.le_refl _, ?_⟩
    obtain ⟨_, ⟨h6, _⟩ | ⟨g, cap, cur, h6, _, h7, _⟩⟩ := ho
    · cases h6
    · cases h6
      exact (Array.getElem?_eq_some_iff.1 h7).1
theorem Ev.St.setL {α : Type} {sz : Nat} {enc : α → List Value} {w0 w : World} {S : Nat → Prop} {H : List Ent} (h : St w0 S w H) (C : Codec sz enc) (i : Nat) {e : TypeId} {b n c o k : Nat} {xs : List α} {d x : α} {vs : List Value} {K : World → Prop} (hi : H[i]? = some (ownL e sz enc (.slice (some ⟨b, 0, none⟩) n c) xs)) (hd : xs[k]? = some d) (ho : o = k * sz) (hv : vs = enc x)
    (hk : ∀ w', Ext (· = b) w w' → St w0 S w' (H.set i (ownL e sz enc (.slice (some ⟨b, 0, none⟩) n c) (xs.set k x))) → K w') : StC w b o vs K := by
  subst ho
  subst hv
  have hlt := (List.getElem?_eq_some_iff.1 hd).1
  have hle : k * sz + sz ≤ xs.length * sz := by rw [← Nat.succ_mul]; exact Nat.mul_le_mul_right _ hlt
  refine h.ownX i hi (by rw [flat_len C, C.len]; exact hle) (C.one x) (fun w' hx hS => hk w' hx ?_)
  have e := flat_over C (k := k) (j := 0) (y := x) (vs := enc x) hd (by rw [C.len]; omega) (over_whole (by rw [C.len, C.len]))
  rw [Nat.add_zero] at e
  rw [e] at hS
  unfold ownL
  rw [List.length_set]
  exact hS
end Go.Proofs.YtgcbcagaibecbaaGreatDoor

namespace Go.Proofs.YtgcbcagaibecbaaGreatDoor.Ev
set_option maxRecDepth 20000
open Go Go.WideShapes
variable [Go.Proofs.YtgcbcagaibecbaaGreatDoor.Gap.Leaps]

theorem apart_symm' : ∀ a b : Ent, (∀ x ∈ a.foot, x ∉ b.foot) → ∀ x ∈ b.foot, x ∉ a.foot := fun _ _ h x hx hy => h x hy hx

section
variable {w0 w w' w'' : World} {S T : Nat → Prop} {H H' H'' A B : List Ent}

theorem St.sel (h : St w0 S w H) (is : List Nat) (hn : is.Nodup) : St w0 S w (is.filterMap fun i => H[i]?) := by
  have mem : ∀ e ∈ is.filterMap (fun i => H[i]?), e ∈ H := fun e he => by
    obtain ⟨i, _, hi⟩ := List.mem_filterMap.1 he
    exact List.mem_of_getElem? hi
  refine ⟨h.ext, fun e he => h.each e (mem e he), fun e he => h.loc e (mem e he), fun e he => h.may e (mem e he), ?_⟩
  rw [List.pairwise_filterMap]
  refine List.Pairwise.imp ?_ hn
  intro i j hij e he f hf
  exact pairwise_at apart_symm' h.apart he hf hij

theorem St.apartAt (h : St w0 S w H) (i j : Nat) {e f : Ent} (hi : H[i]? = some e) (hj : H[j]? = some f) (hne : i ≠ j) (b : Nat) (hb : b ∈ e.foot) : b ∉ f.foot := pairwise_at apart_symm' h.apart hi hj hne b hb
theorem St.ne (h : St w0 S w H) (i j : Nat) {b c : Nat} {t u : TypeId} {cs ds : List Value} (hi : H[i]? = some (Ev.blk b t cs)) (hj : H[j]? = some (Ev.blk c u ds)) (hne : i ≠ j) : b ≠ c := by
  have := pairwise_at apart_symm' h.apart hi hj hne b (by simp [Ev.blk])
  simpa [Ev.blk] using this

theorem St.laX (h : St w0 S w H) (i : Nat) {b o n : Nat} {t : TypeId} {cs : List Value} {k : Value → Prop} (hi : H[i]? = some (Ev.blk b t cs)) (hn : Nat.ble (o + n) cs.length = true) (hk : k (.agg ((cs.drop o).take n).toArray)) : LdA w b o n k := by
  have hle := Nat.le_of_ble_eq_true hn
  have hl : ((cs.drop o).take n).length = n := by rw [List.length_take, List.length_drop]; omega
  exact h.la i hi hl (by rw [hl]) hk

theorem St.laXF (h : St w0 S w H) (i : Nat) {b o n : Nat} {t : TypeId} {cs : List Value} {k : Value → Prop} (hi : H[i]? = some (Ev.blk b t cs)) (hn : Nat.ble (o + n) cs.length = true) (hT : ¬ T b) (hk : k (.agg ((cs.drop o).take n).toArray)) : LdG (Ext T w) b o n k := by
  have hle := Nat.le_of_ble_eq_true hn
  have hl : ((cs.drop o).take n).length = n := by rw [List.length_take, List.length_drop]; omega
  exact h.laF i hi hl (by rw [hl]) hT hk

def Fresh (w w' : World) (v : Value) : Prop := ∀ g, v.ownBlock = some g → w.heap.size ≤ g ∧ g < w'.heap.size
theorem St.freshAt {w0 w : World} {H : List Ent} (h : St w0 No w H) (i : Nat) {α : Type} {e : TypeId} {sz : Nat} {enc : α → List Value} {v : Value} {xs : List α} (hi : H[i]? = some (ownL e sz enc v xs)) : Fresh w0 w v := fun g hg => by
  rcases h.may _ (List.mem_of_getElem? hi) g (by simpa [ownL, own] using hg) with ⟨h1 | h1, h2⟩
  · exact h1.elim
  · exact ⟨h1, h2⟩
theorem St.madeL {w0 w w' : World} {S : Nat → Prop} {H : List Ent} (h : St w0 S w H) (hx : Ext No w w') {α : Type} {e : TypeId} {sz : Nat} {enc : α → List Value} {v : Value} {xs : List α} (ho : (ownL e sz enc v xs).holds w') (hf : Fresh w w' v) : St w0 S w' (H ++ [ownL e sz enc v xs]) :=
  h.made hx (own_local _ _ _ _ _) ho fun g hg => hf g (by simpa [ownL, own] using hg)
end
end Go.Proofs.YtgcbcagaibecbaaGreatDoor.Ev

namespace Go.Proofs.YtgcbcagaibecbaaGreatDoor.Ev
set_option maxRecDepth 20000
open Go Go.WideShapes
variable [Go.Proofs.YtgcbcagaibecbaaGreatDoor.Gap.Leaps]

section
variable {P : Program} {α : Type} {sz : Nat} {enc : α → List Value} {w0 w w' : World} {S : Nat → Prop} {H : List Ent} {G : α → Prop} {a : Option Addr} {n c : Nat} {xs : List α}

end

theorem St.litX {P : Program} {w0 w : World} {S : Nat → Prop} {H : List Ent} (h : St w0 S w H) {t e : TypeId} {len sz : Nat} {z : Value} {parts : Array (Nat × Value)} {cs : List Value} {k : Value → World → Prop}
    (hu : P.underlying t = some (.slice e)) (hs : (P.info? e).map (·.size) = some sz) (hz : (P.info? e).bind (·.zero) = some z) (hsmall : Nat.ble (len * sz) (2 ^ 24) = true) (hpos : Nat.beq (len * sz) 0 = false)
    (hf : fillK sz (zerosL z (len * sz)) parts.toList = some cs)
    (hk : ∀ b w', w.heap.size ≤ b → Ext No w w' → St w0 S w' (H ++ [Ev.blk b e cs]) → k (.slice (some ⟨b, 0, none⟩) len len) w') : RunC P (Instr.buildSlice t len parts) w k := by
  refine (St.start w No).lit hu hs hz hsmall hpos hf (fun b w' hb hS => ?_)
  refine hk b w' hb hS.ext (h.made hS.ext (blk_local _ _ _) (hS.get 0 rfl) fun q hq => ?_)
  obtain rfl : q = b := by simpa [Ev.blk] using hq
  exact ⟨hb, (hS.blk 0 rfl).lt⟩
end Go.Proofs.YtgcbcagaibecbaaGreatDoor.Ev

namespace Go.Proofs.YtgcbcagaibecbaaGreatDoor
set_option maxRecDepth 20000
open Go Ev
variable [Go.Proofs.YtgcbcagaibecbaaGreatDoor.Gap.Leaps]

theorem Ev.St.ref {w0 w : World} {S : Nat → Prop} {H : List Ent} (_ : St w0 S w H) (T : Nat → Prop) : Ext T w w := Ext.refl _ _
theorem Ev.St.stK {w0 w1 w : World} {S T : Nat → Prop} {H : List Ent} (h : St w0 S w H) (hK : Ext T w1 w) (i : Nat) {b o : Nat} {t : TypeId} {cs vs : List Value} {k : World → Prop} (hi : H[i]? = some (Ev.blk b t cs)) (hle : o + vs.length ≤ cs.length) (h1 : vs.all isOne = true) (hT : T b)
    (hk : ∀ w', Ext T w1 w' → St w0 S w' (H.set i (Ev.blk b t (over cs o vs))) → k w') : StC w b o vs k := by
  have hb := h.blk i hi
  have hx : Ext (· = b) w (setBlk w b t (over cs o vs)) := Ext.set (S := (· = b)) (b := b) rfl t _
  exact ⟨t, cs, hb, hle, by simpa using h1, hk _ (hK.trans (hx.mono fun c hc => hc ▸ hT)) (h.upd i hi hx (fun c hc => by simp [Ev.blk, hc]) (blk_local _ _ _) (setBlk_blk hb.lt) (fun c hc => .inl hc))⟩
theorem Ev.St.newK {w0 w1 w : World} {S T : Nat → Prop} {H : List Ent} (h : St w0 S w H) (hK : Ext T w1 w) {t : TypeId} {cs : List Value} {k : Value → World → Prop} (hk : ∀ b w', Ext T w1 w' → St w0 S w' (H ++ [Ev.blk b t cs]) → k (.pointer (some ⟨b, 0, none⟩)) w') : NewC w t cs k := by
  obtain ⟨h1⟩ := h.new (t := t) (cs := cs) (k := fun v w' => Ext T w1 w' → k v w') (fun b w' _ hS hx => hk b w' hx hS)
  exact ⟨fun n d => h1 n d ((hK.trans (Ext.gap _ _ _ _)).trans (Ext.push _ _ _ _))⟩
end Go.Proofs.YtgcbcagaibecbaaGreatDoor

namespace Go.Proofs.YtgcbcagaibecbaaGreatDoor.Ev
set_option maxRecDepth 20000
open Go Go.Conc Gap
variable [Go.Proofs.YtgcbcagaibecbaaGreatDoor.Gap.Leaps]

section
variable {P : Program} {τ : Tab} {N : Nat} {σ : Slots} {a : Act} {w : World} {main : Bool} {Z : Nat → Prop} {Stop : (Nat → Prop) → Goroutine → World → Prop} {O : Nat → Prop} {W : World} {b : Frame} {k : List Item} {cs : List Frame}
theorem way_code (hτ : TabOk P τ) {c : Code} {Q : Exit → Slots → World → Prop} (hb : b.kind ≠ .early) (hf : Fits N σ a) (hl : Lag O Z w W) (h : evR P τ N c Q σ w)
    (hk : ∀ e σ' a' w' O' W', (∀ x, O x → O' x) → Lag O' Z w' W' → Fits N σ' a' → Q e σ' w' → (e = .normal ∨ e = .ret ∨ ∃ i, e = .exit i) → AfterW P main Z Stop b k cs e O' a' W') : Gap.Way P main Z Stop O (G (b.at a (.code c :: k)) cs) W := by
  rw [evR_eq] at h
  refine ev_sound hτ c Q σ a w hf h main Z Stop O W b k cs hb hl fun e a' w' O' W' ho hl' q => ?_
  cases e with
  | normal => obtain ⟨σ', hf', hq⟩ := q; exact hk _ _ _ _ _ _ ho hl' hf' hq (.inl rfl)
  | ret => obtain ⟨σ', hf', hq⟩ := q; exact hk _ _ _ _ _ _ ho hl' hf' hq (.inr (.inl rfl))
  | exit i => obtain ⟨σ', hf', hq⟩ := q; exact hk _ _ _ _ _ _ ho hl' hf' hq (.inr (.inr ⟨i, rfl⟩))
  | goto l => exact q.elim
  | panic c => exact q.elim
  | outgrown => exact q.elim
theorem way_ops_aux (hτ : TabOk P τ) {ops : Array Oper} {Q : Slots → World → Prop} {tail : List Nat} (hb : b.kind ≠ .early) :
    ∀ (l : List Oper) (i : Nat) (σ : Slots) (a : Act) (w : World) (O : Nat → Prop) (W : World), (∀ j o, l[j]? = some o → ops[i + j]? = some o) → Fits N σ a → Lag O Z w W → evOps P τ N ops.toList l Q σ w →
      (∀ σ' a' w' O' W', (∀ x, O x → O' x) → Lag O' Z w' W' → Fits N σ' a' → Q σ' w' → Gap.Way P main Z Stop O' (G (b.at a' (.inRegion ops tail :: k)) cs) W') → Gap.Way P main Z Stop O (G (b.at a (.inRegion ops (List.range' i l.length ++ tail) :: k)) cs) W
  | [], i, σ, a, w, O, W, _, hf, hl, h, hk => hk σ a w O W (fun _ h => h) hl hf h
  | o :: rest, i, σ, a, w, O, W, hd, hf, hl, h, hk => by
    have ho : ops[i]? = some o := hd 0 o rfl
    have hd' : ∀ j o', rest[j]? = some o' → ops[i + 1 + j]? = some o' := fun j o' hj => by
      have := hd (j + 1) o' (by simpa using hj)
      rwa [show i + (j + 1) = i + 1 + j by omega] at this
    obtain ⟨dst, op, ty, pos, after, g⟩ := o
    unfold evOps at h
    rw [List.length_cons, List.range'_succ, List.cons_append]
    rcases guard_sound (o := ⟨dst, op, ty, pos, after, g⟩) hf h with ⟨hw, σ', hf', h2⟩ | ⟨hw, σ', hf', h2⟩
    · split at h2
      · split at h2
        · rename_i hif
          obtain ⟨v, hv, h3⟩ := h2.ex
          obtain ⟨σ'', hf'', h4⟩ := put1_sound hf' h3
          refine way_oper (K := fun a' w' => a' = a.put dst v ∧ w' = w) ho hw hb hl (.inl ⟨.value v, w, ifaces_run hf' (o := ⟨dst, op, ty, pos, after, g⟩) hif hv, rfl, rfl⟩) fun a' w' O' W' ho' hl' ⟨e1, e2⟩ => ?_
          subst e1 e2
          exact way_ops_aux hτ hb rest (i + 1) σ'' _ _ O' W' hd' hf'' hl' h4 fun σ' a' w' O'' W'' ho'' => hk σ' a' w' O'' W'' fun x hx => ho'' x (ho' x hx)
        · have hp := pure_plain (o := ⟨dst, op, ty, pos, after, g⟩) hτ hf' h2
          obtain ⟨v, hv, h3⟩ := pure_sound (o := ⟨dst, op, ty, pos, after, g⟩) hτ hf' h2
          obtain ⟨σ'', hf'', h4⟩ := put1_sound hf' h3
          refine way_oper (K := fun a' w' => a' = a.put dst v ∧ w' = w) ho hw hb hl (.inl ⟨.value v, w, .of hp (hv w) rfl rfl, rfl, rfl⟩) fun a' w' O' W' ho' hl' ⟨e1, e2⟩ => ?_
          subst e1 e2
          exact way_ops_aux hτ hb rest (i + 1) σ'' _ _ O' W' hd' hf'' hl' h4 fun σ' a' w' O'' W'' ho'' => hk σ' a' w' O'' W'' fun x hx => ho'' x (ho' x hx)
      · refine way_oper ho hw hb hl (world_sound (o := ⟨dst, op, ty, pos, after, g⟩) hτ hf' h2) fun a' w' O' W' ho' hl' ⟨v, e1, h3⟩ => ?_
        subst e1
        obtain ⟨σ'', hf'', h4⟩ := put1_sound hf' h3
        exact way_ops_aux hτ hb rest (i + 1) σ'' _ _ O' W' hd' hf'' hl' h4 fun σ' a' w' O'' W'' ho'' => hk σ' a' w' O'' W'' fun x hx => ho'' x (ho' x hx)
    · obtain ⟨σ'', hf'', h4⟩ := put1_sound hf' h2
      refine .ctl rfl (fun _ => stepG_unwanted ho hw) ?_
      exact way_ops_aux hτ hb rest (i + 1) σ'' _ _ O W hd' hf'' hl h4 hk
theorem way_ops (hτ : TabOk P τ) {ops : Array Oper} {Q : Slots → World → Prop} {tail ix : List Nat} (i n : Nat) (hix : ix = List.range' i ((ops.toList.drop i).take n).length ++ tail) (hb : b.kind ≠ .early) (hf : Fits N σ a) (hl : Lag O Z w W) (h : evOpsR P τ N ops.toList Q ((ops.toList.drop i).take n) σ w)
    (hk : ∀ σ' a' w' O' W', (∀ x, O x → O' x) → Lag O' Z w' W' → Fits N σ' a' → Q σ' w' → Gap.Way P main Z Stop O' (G (b.at a' (.inRegion ops tail :: k)) cs) W') : Gap.Way P main Z Stop O (G (b.at a (.inRegion ops ix :: k)) cs) W := by
  rw [evOpsR_eq] at h
  rw [hix]
  refine way_ops_aux hτ hb _ i σ a w O W (fun j o hj => ?_) hf hl h hk
  rw [List.getElem?_take] at hj
  split at hj
  · rw [List.getElem?_drop] at hj
    simpa using hj
  · cases hj
end
end Go.Proofs.YtgcbcagaibecbaaGreatDoor.Ev

namespace Go.Proofs.YtgcbcagaibecbaaGreatDoor
set_option maxRecDepth 20000
open Go Ev
variable [Go.Proofs.YtgcbcagaibecbaaGreatDoor.Gap.Leaps]

theorem Ev.St.fresh {w0 w : World} {H : List Ent} (h : St w0 No w H) (i : Nat) {b : Nat} {t : TypeId} {cs : List Value} (hi : H[i]? = some (Ev.blk b t cs)) : w0.heap.size ≤ b := by
  rcases (h.may _ (List.mem_of_getElem? hi) b (by simp [Ev.blk])).1 with h | h
  · exact h.elim
  · exact h
def errV (E : Nat → Addr) : Nat → Value
  | 0 => .nilIface
  | k + 1 => .iface 189 (.pointer (some (E (k + 1))))

def gErr : Nat → Nat
  | 1 => 1
  | 2 => 0
  | 3 => 2
  | 4 => 4
  | 5 => 5
  | 6 => 6
  | 7 => 7
  | 8 => 8
  | 9 => 9
  | 10 => 10
  | _ => 11

def errRow {H : Type} : Nat → String × DataW H
  | 1 => ("twinrampart/api.ErrText", .iface "*errors.errorString" (.ptr (.agg [.lit (.string [116, 119, 105, 110, 114, 97, 109, 112, 97, 114, 116, 58, 32, 116, 101, 120, 116])])))
  | 2 => ("twinrampart/api.ErrBound", .iface "*errors.errorString" (.ptr (.agg [.lit (.string [116, 119, 105, 110, 114, 97, 109, 112, 97, 114, 116, 58, 32, 98, 111, 117, 110, 100])])))
  | 3 => ("twinrampart/api.ErrShape", .iface "*errors.errorString" (.ptr (.agg [.lit (.string [116, 119, 105, 110, 114, 97, 109, 112, 97, 114, 116, 58, 32, 115, 104, 97, 112, 101])])))
  | 4 => ("twinrampart/api.ErrNone", .iface "*errors.errorString" (.ptr (.agg [.lit (.string [116, 119, 105, 110, 114, 97, 109, 112, 97, 114, 116, 58, 32, 110, 111, 110, 101])])))
  | 5 => ("twinrampart/api.ErrExist", .iface "*errors.errorString" (.ptr (.agg [.lit (.string [116, 119, 105, 110, 114, 97, 109, 112, 97, 114, 116, 58, 32, 101, 120, 105, 115, 116])])))
  | 6 => ("twinrampart/api.ErrFull", .iface "*errors.errorString" (.ptr (.agg [.lit (.string [116, 119, 105, 110, 114, 97, 109, 112, 97, 114, 116, 58, 32, 102, 117, 108, 108])])))
  | 7 => ("twinrampart/api.ErrOff", .iface "*errors.errorString" (.ptr (.agg [.lit (.string [116, 119, 105, 110, 114, 97, 109, 112, 97, 114, 116, 58, 32, 111, 102, 102])])))
  | 8 => ("twinrampart/api.ErrDeny", .iface "*errors.errorString" (.ptr (.agg [.lit (.string [116, 119, 105, 110, 114, 97, 109, 112, 97, 114, 116, 58, 32, 100, 101, 110, 121])])))
  | 9 => ("twinrampart/api.ErrState", .iface "*errors.errorString" (.ptr (.agg [.lit (.string [116, 119, 105, 110, 114, 97, 109, 112, 97, 114, 116, 58, 32, 115, 116, 97, 116, 101])])))
  | 10 => ("twinrampart/api.ErrOld", .iface "*errors.errorString" (.ptr (.agg [.lit (.string [116, 119, 105, 110, 114, 97, 109, 112, 97, 114, 116, 58, 32, 111, 108, 100])])))
  | _ => ("twinrampart/api.ErrHeld", .iface "*errors.errorString" (.ptr (.agg [.lit (.string [116, 119, 105, 110, 114, 97, 109, 112, 97, 114, 116, 58, 32, 104, 101, 108, 100])])))

theorem errRow_named (k : Nat) : Tryz.prog.globalNamed (errRow (H := Unit) k).1 = some (gErr k) ∧ (Tryz.prog.globals[gErr k]?).map (·.type) = some 26 := by
  unfold errRow gErr
  split <;> exact ⟨by kernel_rfl, by kernel_rfl⟩

theorem errRow_form (k : Nat) : ∃ n text, errRow (H := Unit) k = (n, .iface "*errors.errorString" (.ptr (.agg [.lit (.string text)]))) := by
  unfold errRow
  split <;> exact ⟨_, _, rfl⟩

theorem errStar : "*" ++ "errors.errorString" = "*errors.errorString" := by decide
theorem errStr_only (u : TypeId) (h : Tryz.prog.typeName? 3 u = some "*errors.errorString") : u = 189 :=
  typeName_ptr_named (nm := "errors.errorString") (by rw [errStar]; kernel_rfl) (by kernel_rfl) (by decide) u (by rw [errStar]; exact h)

structure Errs (w : World) (E : Nat → Addr) (n : Nat) (ks : List Nat) : Prop where
  at_ : ∀ k, ks.contains k = true → w.cell? ⟨gErr k, 0, none⟩ = some (.iface 189 (.pointer (some (E k))))
  lt : ∀ k, ks.contains k = true → gErr k < n
  row : ∀ k, ks.contains k = true → (∃ c t, w.heap[(E k).block]? = some (.cells c t (0, 0))) ∧ (E k).block < n
  inj : ∀ j k, ks.contains j = true → ks.contains k = true → j ≠ k → E j ≠ E k

theorem Errs.ext {w w' : World} {E : Nat → Addr} {n : Nat} {ks : List Nat} {S : Nat → Prop} (h : Errs w E n ks) (hx : Ext S w w') (hS : ∀ b, S b → n ≤ b) : Errs w' E n ks :=
  ⟨fun k hk => hx.cell (h.at_ k hk) (fun hs => by have := hS _ hs; have := h.lt k hk; omega), h.lt, fun k hk => by
    obtain ⟨⟨c, t, hc⟩, hb⟩ := h.row k hk
    refine ⟨⟨c, t, ?_⟩, hb⟩
    rw [hx.block _ (Array.getElem?_eq_some_iff.1 hc).1 (fun hs => by have := hS _ hs; omega)]
    exact hc, h.inj⟩
theorem Errs.sub {w : World} {E : Nat → Addr} {n : Nat} {ks ks' : List Nat} (h : Errs w E n ks) (hs : ks'.all (fun k => ks.contains k) = true) : Errs w E n ks' := by
  have key : ∀ k, ks'.contains k = true → ks.contains k = true := fun k hk => List.all_eq_true.1 hs k (by simpa using hk)
  exact ⟨fun k hk => h.at_ k (key k hk), fun k hk => h.lt k (key k hk), fun k hk => h.row k (key k hk), fun j k hj hk => h.inj j k (key j hj) (key k hk)⟩
theorem laidVars_sub {P : Program} {w : World} {l l' : List (String × DataW Unit)} (hs : l'.Sublist l) : ∀ {ps : List MemPlace}, DataW.LaidVars P w l ps → ∃ ps', DataW.LaidVars P w l' ps' ∧ ps'.Sublist ps := by
  induction hs with
  | slnil => exact fun {ps} h => ⟨ps, h, List.Sublist.refl _⟩
  | cons x hs ih =>
    intro ps h
    obtain ⟨n, d⟩ := x
    obtain ⟨g, t, cs, fuel, p, q, e1, e2, e3, e4, hr, rfl⟩ := h
    obtain ⟨q', hq, hs⟩ := ih hr
    exact ⟨q', hq, hs.trans (List.sublist_append_right _ _)⟩
  | cons_cons x hs ih =>
    intro ps h
    obtain ⟨n, d⟩ := x
    obtain ⟨g, t, cs, fuel, p, q, e1, e2, e3, e4, hr, rfl⟩ := h
    obtain ⟨q', hq, hs⟩ := ih hr
    exact ⟨_, ⟨g, t, cs, fuel, p, q', e1, e2, e3, e4, hq, rfl⟩, List.Sublist.append (List.Sublist.refl _) hs⟩
theorem laidMet_sub {P : Program} {w : World} {l l' : List (String × DataW Unit)} (hs : l'.Sublist l) (h : laidMet P l w) : laidMet P l' w := by
  obtain ⟨ps, hl, hnd, hrows⟩ := h
  obtain ⟨ps', hl', hs⟩ := laidVars_sub hs hl
  exact ⟨ps', hl', hnd.sublist hs, fun b off hp => hrows b off (hs.subset hp)⟩
theorem pair_sub {α : Type} {x y : α} (hne : x ≠ y) {l : List α} (hx : x ∈ l) (hy : y ∈ l) : [x, y].Sublist l ∨ [y, x].Sublist l := by
  induction l with
  | nil => cases hx
  | cons z l ih =>
    rcases List.mem_cons.1 hx with h1 | h1
    · rcases List.mem_cons.1 hy with h2 | h2
      · exact absurd (h1.trans h2.symm) hne
      · subst h1
        exact .inl (.cons_cons _ (List.singleton_sublist.2 h2))
    · rcases List.mem_cons.1 hy with h2 | h2
      · subst h2
        exact .inr (.cons_cons _ (List.singleton_sublist.2 h1))
      · rcases ih h1 h2 with h | h
        · exact .inl (.cons _ h)
        · exact .inr (.cons _ h)

theorem gErr_inj (j : Nat) (hj : j < 12) (k : Nat) (hk : k < 12) (j0 : 1 ≤ j) (k0 : 1 ≤ k) (hne : j ≠ k) : gErr j ≠ gErr k := by
  have h : ((List.range 12).all fun j => (List.range 12).all fun k => Nat.ble j 0 || Nat.ble k 0 || Nat.beq j k || !Nat.beq (gErr j) (gErr k)) = true := by rfl
  have h1 := List.all_eq_true.1 (List.all_eq_true.1 h j (List.mem_range.2 hj)) k (List.mem_range.2 hk)
  intro he
  rw [he] at h1
  simp at h1
  omega

theorem sentinel1 {P : Program} {n nm : String} {text : List UInt8} {W : World} {g : Nat} {ti tp te ts : TypeId} {ms : Array (String × TypeId)} {f : Field}
    (h : laidMet P [(n, .iface nm (.ptr (.agg [.lit (.string text)])))] W)
    (hg : P.globalNamed n = some g) (ht : (P.globals[g]?).map (·.type) = some ti) (hi : P.underlying ti = some (.interface ms)) (hrow : ∀ u, P.typeName? 3 u = some nm → u = tp)
    (hp : P.underlying tp = some (.pointer te)) (he : P.underlying te = some (.struct #[f])) (hft : f.type = ts) (hfo : f.offset = 0) (hs : P.underlying ts = some .string) (hc : P.cellsOf te = 1) (hcs : P.cellsOf ts = 1) :
    ∃ (a : Addr), W.cell? ⟨g, 0, none⟩ = some (.iface tp (.pointer (some a))) ∧ (∃ c t, W.heap[a.block]? = some (.cells c t (0, 0))) := by
  obtain ⟨ps, ⟨g0, t0, cs0, f0, p0, q0, hg0, ht0, hv0, hd0, _, e0⟩, _, hrows⟩ := h
  obtain rfl := Option.some.inj (hg.symm.trans hg0)
  obtain rfl := Option.some.inj (ht.symm.trans ht0)
  subst e0
  obtain ⟨l0⟩ := cs0
  have ok0 : ∀ u v, l0 = [.iface u v] → Value.okWide P W .any 0 u v := fun u v e => by
    subst e
    exact (hrows g 0 (by simp [MemPlace.row])).2 u v (by simpa using World.var?_cell hg0 hv0 0)
  obtain ⟨a0, s0, rfl, hc0, hs0, hz0, rfl⟩ := errorString_of_trod hi hrow hp he hft hfo hs hc hcs hd0 ok0
  refine ⟨a0, by simpa using World.var?_cell hg0 hv0 0, ?_⟩
  obtain ⟨c, t, hb⟩ := (hrows a0.block a0.off (by simp [MemPlace.row])).1
  exact ⟨c, t, hb⟩

theorem errs_of {L : List (String × DataW Unit)} {W : World} (ks : List Nat) (hks : ks.all (fun k => decide (1 ≤ k ∧ k < 12)) = true) (hl : laidMetH Tryz.prog L W) (hm : ∀ k ∈ ks, errRow k ∈ L) : ∃ E, Errs W E W.heap.size ks := by
  have h1 := (laidMetH_iff.1 hl).1
  have hin : ∀ k, k ∈ ks → errRow (H := Unit) k ∈ L.filter fun x => x.2.handleName?.isNone := fun k hk => by
    obtain ⟨n, text, hf⟩ := errRow_form k
    refine List.mem_filter.2 ⟨hm k hk, ?_⟩
    rw [hf]
    rfl
  have key : ∀ k, ∃ a : Addr, k ∈ ks → W.cell? ⟨gErr k, 0, none⟩ = some (.iface 189 (.pointer (some a))) ∧ (∃ c t, W.heap[a.block]? = some (.cells c t (0, 0))) := by
    intro k
    by_cases hk : k ∈ ks
    · have hk2 := hin k hk
      obtain ⟨hg, ht⟩ := errRow_named k
      obtain ⟨n, text, hf⟩ := errRow_form k
      rw [hf] at hk2 hg
      have h2 := laidMet_sub (List.singleton_sublist.2 hk2) h1
      obtain ⟨a, h3, h4⟩ := sentinel1 (P := Tryz.prog) h2 hg ht Tryz.underlying26 errStr_only Tryz.underlying189 Tryz.underlying191 rfl rfl Tryz.underlying9 (by kernel_rfl) (by kernel_rfl)
      exact ⟨a, fun _ => ⟨h3, h4⟩⟩
    · exact ⟨⟨0, 0, none⟩, fun h => absurd h hk⟩
  have spec : ∀ k, ks.contains k = true → _ := fun k hk => (key k).choose_spec (by simpa using hk)
  refine ⟨fun k => (key k).choose, fun k hk => (spec k hk).1, fun k hk => ?_, fun k hk => ?_, fun j k hj hk hne => ?_⟩
  · exact cell_lt (spec k hk).1
  · obtain ⟨_, c, t, hc⟩ := spec k hk
    exact ⟨⟨c, t, hc⟩, (Array.getElem?_eq_some_iff.1 hc).1⟩
  · have bj := of_decide_eq_true (List.all_eq_true.1 hks j (by simpa using hj))
    have bk := of_decide_eq_true (List.all_eq_true.1 hks k (by simpa using hk))
    have gne := gErr_inj j bj.2 k bk.2 bj.1 bk.1 hne
    have two : ∀ j k, ks.contains j = true → ks.contains k = true → [errRow (H := Unit) j, errRow k].Sublist (L.filter fun x => x.2.handleName?.isNone) → (key j).choose ≠ (key k).choose := by
      intro j k hj hk hsub
      have h2 := laidMet_sub hsub h1
      obtain ⟨hgj, htj⟩ := errRow_named j
      obtain ⟨hgk, htk⟩ := errRow_named k
      obtain ⟨nj, textj, hfj⟩ := errRow_form j
      obtain ⟨nk, textk, hfk⟩ := errRow_form k
      rw [hfj] at hgj
      rw [hfk] at hgk
      rw [hfj, hfk] at h2
      obtain ⟨a0, a1, _, _, _, _, _, _, v0, v1, _, _, _, _, _, _, hne2, _⟩ := laid_sentinels2 (P := Tryz.prog) h2 hgj htj hgk htk Tryz.underlying26 errStr_only Tryz.underlying189 Tryz.underlying191 rfl rfl Tryz.underlying9 (by kernel_rfl) (by kernel_rfl)
      have c0 : W.cell? ⟨gErr j, 0, none⟩ = some (.iface 189 (.pointer (some a0))) := by simpa using World.var?_cell hgj v0 0
      have c1 : W.cell? ⟨gErr k, 0, none⟩ = some (.iface 189 (.pointer (some a1))) := by simpa using World.var?_cell hgk v1 0
      have d0 := (spec j hj).1
      have d1 := (spec k hk).1
      have d0 := c0.symm.trans d0
      have d1 := c1.symm.trans d1
      simp only [Option.some.injEq, Value.iface.injEq, Value.pointer.injEq, true_and] at d0 d1
      intro he
      exact hne2 (d0.trans (he.trans d1.symm))
    have hrne : errRow (H := Unit) j ≠ errRow k := by
      intro he
      have a := (errRow_named j).1
      rw [he, (errRow_named k).1] at a
      exact gne (Option.some.inj a).symm
    rcases pair_sub hrne (hin j (by simpa using hj)) (hin k (by simpa using hk)) with h | h
    · exact two j k hj hk h
    · exact (two k j hk hj h).symm
end Go.Proofs.YtgcbcagaibecbaaGreatDoor

namespace Go.Proofs.YtgcbcagaibecbaaGreatDoor.Pool
set_option maxRecDepth 20000
open Go Go.Conc Gap Ev
open Go.ConcN (WgLive)
open Go.ConcR (Payload)
local instance : Gap.Leaps := noLeaps

def shutO : Obj → Obj
  | .cells c t _ => glass c t
  | _ => dark
open Classical in
noncomputable def view (O Z : Nat → Prop) (W : World) : World := { W with heap := W.heap.mapIdx fun b o => if O b then o else if Z b then shutO o else dark }
section
variable {O Z : Nat → Prop} {W : World} {b : Nat}
theorem view_own (h : O b) : (view O Z W).heap[b]? = W.heap[b]? := by
  simp only [view, Array.getElem?_mapIdx]
  cases W.heap[b]? <;> simp [h]
theorem view_shr (h : ¬ O b) (hz : Z b) : (view O Z W).heap[b]? = (W.heap[b]?).map shutO := by
  simp only [view, Array.getElem?_mapIdx, if_neg h, if_pos hz]
theorem view_dark (h : ¬ O b) (hz : ¬ Z b) : (view O Z W).heap[b]? = (W.heap[b]?).map fun _ => dark := by
  simp only [view, Array.getElem?_mapIdx, if_neg h, if_neg hz]
theorem view_lag (h : ∀ b, O b → ∃ o, W.heap[b]? = some o ∧ okObj o = true) : Lag O Z (view O Z W) W := by
  refine ⟨rfl, rfl, rfl, by simp [view], fun b hb => ?_, fun b o hb ho => ?_, fun b t hb ho => ?_⟩
  · obtain ⟨o, h1, h2⟩ := h b hb
    exact ⟨o, (view_own hb).trans h1, h1, h2⟩
  · by_cases hz : Z b
    · rw [view_shr hb hz] at ho
      obtain ⟨o', h1, rfl⟩ := Option.map_eq_some_iff.1 ho
      cases o' <;> first | exact .inr ⟨hz, _, _, _, h1, rfl⟩ | exact .inl ⟨_, _, rfl⟩
    · rw [view_dark hb hz] at ho
      obtain ⟨o', h1, rfl⟩ := Option.map_eq_some_iff.1 ho
      exact .inl ⟨_, _, rfl⟩
  · exfalso
    by_cases hz : Z b
    · rw [view_shr hb hz] at ho
      obtain ⟨o', h1, h2⟩ := Option.map_eq_some_iff.1 ho
      cases o' <;> simp [shutO, glass, dark] at h2
    · rw [view_dark hb hz] at ho
      obtain ⟨o', h1, h2⟩ := Option.map_eq_some_iff.1 ho
      simp [dark] at h2
theorem view_cell {o : Nat} {v : Value} (hz : O b ∨ Z b) (h : W.cell? ⟨b, o, none⟩ = some v) : (view O Z W).cell? ⟨b, o, none⟩ = some v := by
  by_cases hb : O b
  · rw [← h]; simp [World.cell?, view_own hb]
  · have hz := hz.resolve_left hb
    unfold World.cell? at h ⊢
    rw [view_shr hb hz]
    cases hw : W.heap[b]? with
    | none => rw [hw] at h; cases h
    | some x =>
      rw [hw] at h
      cases x <;> simp [shutO, glass] at h ⊢ <;> exact h
theorem cell_obj {o : Nat} {v : Value} (h : W.cell? ⟨b, o, none⟩ = some v) : ∃ o, W.heap[b]? = some o ∧ okObj o = true := by
  unfold World.cell? at h
  cases hw : W.heap[b]? with
  | none => rw [hw] at h; cases h
  | some x =>
    rw [hw] at h
    cases x <;> first | exact ⟨_, rfl, rfl⟩ | cases h
end

def HowOk (J : Job) (Ans : Nat → Value → Value → Ent → Prop) : Prop := ∀ i : Nat, i < J.many → ∀ w, Seen J w → CallC Tryz.prog J.fh (.int .i64 i :: J.c0 :: J.cs).toArray w fun v w' => Ext No w w' ∧
  ∃ a n c err e, v = .tuple #[.slice a n c, err] ∧ (err = .nilIface ∨ ∃ t u, err = .iface t u) ∧ Ans i (.slice a n c) err e ∧ e.Local ∧ e.holds w' ∧ ∀ b ∈ e.foot, w.heap.size ≤ b ∧ ∃ c t, w'.heap[b]? = some (.cells c t (0, 0))
def ResJ (J : Job) (Ans : Nat → Value → Value → Ent → Prop) (i : Nat) (v : Value) (T : Nat → Prop) (W : World) : Prop :=
  ∃ a n c err e, v = .agg #[.int .i64 i, .slice a n c, err] ∧ (err = .nilIface ∨ ∃ t u, err = .iface t u) ∧ Ans i (.slice a n c) err e ∧ e.Local ∧ e.holds W ∧ (∀ b ∈ e.foot, T b) ∧ ∀ b, T b → J.W0.heap.size ≤ b ∧ ∃ o, W.heap[b]? = some o ∧ okObj o = true
def ASJ (J : Job) (Ans : Nat → Value → Value → Ent → Prop) (i C : Nat) (O : Nat → Prop) (g : Goroutine) (W : World) : Prop :=
  ∃ T v, TF J T ∧ T[16]? = some (.chan (some J.cb)) ∧ T[20]? = some v ∧ g = G (atSend T) [frG J C, bot] ∧ WM J C W ∧ ResJ J Ans i v (fun b => O b ∧ ¬ Mine C b) W

section
variable {J : Job} {Ans : Nat → Value → Value → Ent → Prop} {C i : Nat} {T : Array Value} {W : World}
def InT : Slots → Array Value → Prop
  | [], _ => True
  | (n, v) :: r, T => T[n]? = some v ∧ InT r T
theorem InT.look_ : ∀ {σ : Slots} {T : Array Value}, InT σ T → ∀ n v, Ev.look σ n = some v → T[n]? = some v
  | [], _, _, _, _, h => by cases h
  | (m, u) :: r, T, hs, n, v, h => by
    unfold Ev.look at h
    cases hb : Nat.beq m n with
    | true =>
      rw [hb] at h
      have := Nat.eq_of_beq_eq_true hb
      subst this
      simp only [Option.some.injEq] at h
      subst h
      exact hs.1
    | false =>
      rw [hb] at h
      exact InT.look_ hs.2 n v h
theorem fits_of {N : Nat} {σ : Slots} {T : Array Value} (hT : T.size = N) (h : InT σ T) : Fits N σ ⟨T, []⟩ := ⟨hT, rfl, h.look_⟩
theorem tf_of {a : Act} {σ : Slots} (h : Fits 21 σ a) (h0 : Ev.look σ 0 = some (.pointer (some ⟨J.bt, 0, none⟩))) (h1 : Ev.look σ 1 = some (.pointer (some ⟨J.bh, 0, none⟩))) (h2 : Ev.look σ 2 = some (.pointer (some ⟨J.bb, 0, none⟩))) (h6 : Ev.look σ 6 = some (.chan (some J.ct))) : TF J a.tmps ∧ a = ⟨a.tmps, []⟩ :=
  ⟨⟨h.size, h.vals _ _ h0, h.vals _ _ h1, h.vals _ _ h2, h.vals _ _ h6⟩, by
    have := h.defers
    cases a
    simp only at this
    subst this
    rfl⟩
abbrev sgT (J : Job) : Slots := [(0, .pointer (some ⟨J.bt, 0, none⟩)), (1, .pointer (some ⟨J.bh, 0, none⟩)), (2, .pointer (some ⟨J.bb, 0, none⟩)), (6, .chan (some J.ct))]
theorem task0 (ok : JobOk J) (hH : HowOk J Ans) (hi : i < J.many) (hT : TF J T) (hF : WM J C W) : Way0 Tryz.prog false J.Z (fun O g W => (∀ b, O b → J.W0.heap.size ≤ b) → ASJ J Ans i C O g W) (Mine C) (Go.Conc.served (G (atRecv T) [frG J C, bot]) (.tuple #[.int .i64 i, .bool true])) W := by
  have e : Go.Conc.served (G (atRecv T) [frG J C, bot]) (.tuple #[.int .i64 i, .bool true]) =
      G ((base iA1).at ⟨T.setIfInBounds 7 (.tuple #[.int .i64 i, .bool true]), []⟩ [.inRegion (regs fnA1 1) [1], .code (second (round fnA1 0)), .inLoop (round fnA1 0), .inBlock 0]) [frG J C, bot] := by
    simp only [Go.Conc.served, G, atRecv, Frame.finish_at]
    rfl
  rw [e]
  clear e
  have hlag : Lag (Mine C) J.Z (view (Mine C) J.Z W) W := view_lag fun b hb => by
    rcases hb with rfl | rfl
    · exact cell_obj hF.wg
    · exact cell_obj hF.fn
  have hown : ∀ b, Mine C b → (view (Mine C) J.Z W).heap[b]? = W.heap[b]? := fun b hb => view_own hb
  have hseen : Seen J (view (Mine C) J.Z W) := fun b o v hz h => view_cell (.inr hz) (hF.seen b o v hz h)
  have hsize : (view (Mine C) J.Z W).heap.size = W.heap.size := by simp [view]
  generalize view (Mine C) J.Z W = w at hlag hown hseen hsize
  have hbt := hseen _ _ _ ok.zt ok.todo
  have hbh := hseen _ _ _ ok.zh ok.how
  have hbb := hseen _ _ _ ok.zb ok.back
  have hsz : (T.setIfInBounds 7 (.tuple #[.int .i64 i, .bool true])).size = 21 := by simp [hT.size]
  refine way_ops (σ := (7, .tuple #[.int .i64 i, .bool true]) :: sgT J)
    (Q := fun σ w' => w' = w ∧ σ = (8, .bool true) :: (7, .tuple #[.int .i64 i, .bool true]) :: sgT J)
    (tail := []) tabOk 1 1 rfl (by decide) (fits_of hsz ⟨by simp [hT.size], by simpa using hT.t0, by simpa using hT.t1, by simpa using hT.t2, by simpa using hT.t6, trivial⟩) hlag ?_ ?_
  · (conv => whnf)
    exact ⟨rfl, rfl⟩
  rintro σ1 a1 w1 O1 W1 ho1 hl1 hf1 ⟨rfl, rfl⟩
  refine .ctl rfl (fun _ => stepG_region_end) ?_
  rw [show second (round fnA1 0) = .seq (.cond (.tmp 8) .skip (.exit 0)) (.block 1 (round fnA1 1)) from rfl]
  refine .ctl rfl (fun _ => stepG_seq) ?_
  refine .ctl rfl (fun _ => stepG_cond (t := true) (ro_eval hf1 rfl)) ?_
  refine .ctl rfl (fun _ => stepG_skip) ?_
  refine .ctl rfl (fun _ => stepG_block) ?_
  rw [show round fnA1 1 = .seq (.region 2 (regs fnA1 2) false) (.seq (.region 3 (regs fnA1 3) false) (.region 4 (regs fnA1 4) false)) from rfl]
  refine .ctl rfl (fun _ => stepG_seq) ?_
  refine way_code (Q := fun e σ w' => e = .normal ∧ w' = w1 ∧ Sub ((3, .int .i64 i) :: sgT J) σ) tabOk (by decide) hf1 hl1 ?_ ?_
  · (conv => whnf)
    exact ⟨rfl, rfl, rfl, rfl, rfl, rfl, rfl, trivial⟩
  rintro e σ2 a2 w2 O2 W2 ho2 hl2 hf2 ⟨rfl, rfl, hs2⟩ _
  replace hf2 := hf2.weaken hs2.look_
  show Way0 _ _ _ _ _ _ _
  refine .ctl rfl (fun _ => stepG_seq) ?_
  refine way_code (Q := fun e σ w' => e = .normal ∧ ∃ a n c err en, Ext No w2 w' ∧ (err = .nilIface ∨ ∃ t u, err = .iface t u) ∧ Ans i (.slice a n c) err en ∧ en.Local ∧ en.holds w' ∧ (∀ b ∈ en.foot, w2.heap.size ≤ b ∧ ∃ c t, w'.heap[b]? = some (.cells c t (0, 0))) ∧ Sub ((3, .int .i64 i) :: (4, .slice a n c) :: (5, err) :: sgT J) σ) tabOk (by decide) hf2 hl2 ?_ ?_
  · (conv => whnf)
    refine ldc hbh ?_
    (conv => whnf)
    refine (hH i hi w2 hseen).mono ?_
    rintro v w' ⟨hx, a, n, c, err, en, rfl, h1, h2, h3, h4, h5⟩
    (conv => whnf)
    exact ⟨rfl, a, n, c, err, en, hx, h1, h2, h3, h4, h5, rfl, rfl, rfl, rfl, rfl, rfl, rfl, trivial⟩
  rintro e σ3 a3 w3 O3 W3 ho3 hl3 hf3 ⟨rfl, a, n, c, err, en, hx, h1, h2, h3, h4, h5, hs3⟩ _
  replace hf3 := hf3.weaken hs3.look_
  show Way0 _ _ _ _ _ _ _
  refine .ctl rfl (fun _ => stepG_region) ?_
  have hbb3 : w3.cell? ⟨J.bb, 0, none⟩ = some (.chan (some J.cb)) := hx.cell hbb id
  have fin : ∀ (σ4 : Slots) (a4 : Act) (w4 : World) (O4 : Nat → Prop) (W4 : World), (∀ x, O3 x → O4 x) → Lag O4 J.Z w4 W4 → Fits 21 σ4 a4 → w4 = w3 ∧ Sub ((16, .chan (some J.cb)) :: (20, .agg #[.int .i64 i, .slice a n c, err]) :: sgT J) σ4 → Way0 Tryz.prog false J.Z (fun O g W => (∀ b, O b → J.W0.heap.size ≤ b) → ASJ J Ans i C O g W) O4 (G ((base iA1).at a4 [.inRegion (regs fnA1 4) [5], .inBlock 1, .inLoop (round fnA1 0), .inBlock 0]) [frG J C, bot]) W4 := by
    rintro σ4 a4 w4 O4 W4 ho4 hl4 hf4 ⟨rfl, hs4⟩
    replace hf4 := hf4.weaken hs4.look_
    obtain ⟨htf, ha⟩ := tf_of hf4 rfl rfl rfl rfl
    have hC0 : C < W.heap.size := cell_lt hF.wg
    have hC1 : C + 1 < W.heap.size := cell_lt hF.fn
    have newO : ∀ b ∈ en.foot, O4 b := fun b hb => by
      obtain ⟨e1, c', t', e2⟩ := h5 b hb
      refine Classical.byContradiction fun ho => ?_
      have hz : J.Z b → False := fun hz => by
        have := ok.zlow b hz
        have := hF.low
        omega
      rcases hl4.rest b _ ho e2 with ⟨t2, f2, e3⟩ | ⟨hz', _⟩
      · injection e3 with e3 e4 e5
        subst e3
        exact hz (hl4.flat b t' ho e2).1
      · exact hz hz'
    refine .stop fun W5 h6 hlow => ⟨a4.tmps, _, htf, hf4.vals 16 _ rfl, hf4.vals 20 _ rfl, ?_, ?_, a, n, c, err, en, rfl, h1, h2, h3, ?_, fun b hb => ⟨newO b hb, ?_⟩, fun b hb => ⟨hlow b hb.1, let ⟨o, _, e2, e3⟩ := hl4.own b hb.1; ⟨o, (h6.keep b (.inl hb.1)).trans e2, e3⟩⟩⟩
    · rw [ha]; rfl
    · have hm : ∀ b, Mine C b → O4 b := fun b hb => ho4 b (ho3 b (ho2 b (ho1 b hb)))
      have hc : ∀ b v, Mine C b → W.cell? ⟨b, 0, none⟩ = some v → W5.cell? ⟨b, 0, none⟩ = some v := fun b v hb hv => by
        have c1 : w2.cell? ⟨b, 0, none⟩ = some v := cell_stands hv (hown b hb)
        exact cell_stands (hl4.cell (hx.cell c1 id)).1 (h6.keep b (.inl (hm b hb)))
      exact ⟨hc C _ (.inl rfl) hF.wg, hc (C + 1) _ (.inr rfl) hF.fn, fun b o v hz hv => cell_stands (hl4.cell (hx.cell (hseen b o v hz hv) id)).1 (h6.keep b (.inr hz)), hF.low⟩
    · refine h3 w4 W5 (fun b hb => ?_) h4
      have ob : O4 b := newO b hb
      obtain ⟨o, e1, e2, _⟩ := hl4.own b ob
      rw [h6.keep b (.inl ob), e1, e2]
    · have := (h5 b hb).1
      rintro (rfl | rfl) <;> omega
  rcases h1 with rfl | ⟨t, u, rfl⟩
  · refine way_ops (Q := fun σ w' => w' = w3 ∧ Sub ((16, .chan (some J.cb)) :: (20, .agg #[.int .i64 i, .slice a n c, .nilIface]) :: sgT J) σ) (tail := [5]) tabOk 0 5 rfl (by decide) hf3 hl3 ?_ fin
    (conv => whnf)
    refine ldc hbb3 ?_
    (conv => whnf)
    exact ⟨rfl, rfl, rfl, rfl, rfl, rfl, rfl, trivial⟩
  · refine way_ops (Q := fun σ w' => w' = w3 ∧ Sub ((16, .chan (some J.cb)) :: (20, .agg #[.int .i64 i, .slice a n c, .iface t u]) :: sgT J) σ) (tail := [5]) tabOk 0 5 rfl (by decide) hf3 hl3 ?_ fin
    (conv => whnf)
    refine ldc hbb3 ?_
    (conv => whnf)
    exact ⟨rfl, rfl, rfl, rfl, rfl, rfl, rfl, trivial⟩
theorem task (ok : JobOk J) (hH : HowOk J Ans) (hi : i < J.many) (hT : TF J T) (hF : WM J C W) : Way0 Tryz.prog false J.Z (ASJ J Ans i C) (Mine C) (Go.Conc.served (G (atRecv T) [frG J C, bot]) (.tuple #[.int .i64 i, .bool true])) W :=
  way0_mono (above (p := fun b => J.W0.heap.size ≤ b) (q := fun _ => False) (n := J.W0.heap.size) (w0 := W) (fun _ h => h) (task0 ok hH hi hT hF) ⟨fun b hb => by
    have := hF.low
    rcases hb with rfl | rfl <;> show J.W0.heap.size ≤ _ <;> omega, fun _ h => h.elim, by
    have := hF.low
    have : C < W.heap.size := cell_lt hF.wg
    omega, .refl W⟩) fun O g W h => h.1 h.2.up
end
end Go.Proofs.YtgcbcagaibecbaaGreatDoor.Pool
