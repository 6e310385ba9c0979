/-
  Texts of this claim, joined: NodeS, Code, As, Fault, Node, NodeI, NodeT.
-/
import Derived.Test.YtakdekkieobbaaaGreatDoorNodeActsE
import Derived.Laws.Externs
import Derived.LaidEql
import Derived.Stop.Asserts

/-
  A node in plain terms: what each of its methods makes of it.
-/
namespace Go.Proofs.YtakdekkieobbaaaGreatDoor
open Go Ev

structure NodeS where
  id : Int
  now : Int
  role : RoleS
  cell : CelS
  tab : MirS
  tel : TelS
  mir : MirS
  rules : List RuleS
structure NoteS where
  fro : Int
  life : Int
  epoch : Int
  claim : Bool
  cells : List CellS

def NodeS.pass (N : NodeS) (k flags : Int) (out : Bool) : NodeS :=
  { N with tab := match (nextS (flowAt N.tab k).proto (flowAt N.tab k).state flags out).2 with
    | true => (N.tab.drop k).2
    | false => (N.tab.setS k (nextS (flowAt N.tab k).proto (flowAt N.tab k).state flags out).1 (N.now + timeS (flowAt N.tab k).proto (nextS (flowAt N.tab k).proto (flowAt N.tab k).state flags out).1)).2 }
def NodeS.begin (N : NodeS) (p : PktS) : (Int × Nat) × NodeS :=
  if admitsL p.proto p.dp true N.rules = false then ((0, 8), N) else
  if (beginS p.proto p.flags).2 ≠ 0 then ((0, (beginS p.proto p.flags).2), N) else
  ((N.tab.add p.proto p.sa p.sp p.da p.dp (beginS p.proto p.flags).1 (N.now + timeS p.proto (beginS p.proto p.flags).1)).1, { N with tab := (N.tab.add p.proto p.sa p.sp p.da p.dp (beginS p.proto p.flags).1 (N.now + timeS p.proto (beginS p.proto p.flags).1)).2 })
def NodeS.inside (N : NodeS) (p : PktS) : Nat × PktS × NodeS :=
  if p.err ≠ 0 then (p.err, noPkt, N) else
  if N.role.active = false then (9, noPkt, N) else
  if 0 ≤ N.tab.find p.proto p.sa p.sp p.da p.dp then (0, ⟨p.proto, 1, (flowAt N.tab (N.tab.find p.proto p.sa p.sp p.da p.dp)).port, p.da, p.dp, p.flags⟩, N.pass (N.tab.find p.proto p.sa p.sp p.da p.dp) p.flags true) else
  if (N.begin p).1.2 ≠ 0 then ((N.begin p).1.2, noPkt, (N.begin p).2) else
  (0, ⟨p.proto, 1, (flowAt (N.begin p).2.tab (N.begin p).1.1).port, p.da, p.dp, p.flags⟩, (N.begin p).2)
def NodeS.outside (N : NodeS) (p : PktS) : Nat × PktS × NodeS :=
  if p.err ≠ 0 then (p.err, noPkt, N) else
  if N.role.active = false then (9, noPkt, N) else
  if p.da ≠ 1 then (3, noPkt, N) else
  if N.tab.back p.proto p.dp p.sa p.sp < 0 then (4, noPkt, N) else
  (0, ⟨p.proto, p.sa, p.sp, (flowAt N.tab (N.tab.back p.proto p.dp p.sa p.sp)).ia, (flowAt N.tab (N.tab.back p.proto p.dp p.sa p.sp)).ip, p.flags⟩, N.pass (N.tab.back p.proto p.dp p.sa p.sp) p.flags false)
def putAll (now : Int) (T : MirS) (l : List FlowS) : MirS := l.foldl (fun T f => (T.put { f with til := now + timeS f.proto f.state }).2) T
/-- A claim: is it one; the error's number. -/
def NodeS.claim (N : NodeS) (B : BytS) : (Bool × Nat) × NodeS × BytS :=
  if N.role.next.2 ≠ 0 then ((false, 0), N, B) else
  if (N.cell.put B N.role.next.1 N.cell.li).1 ≠ 0 then ((false, (N.cell.put B N.role.next.1 N.cell.li).1), { N with cell := (N.cell.put B N.role.next.1 N.cell.li).2.2 }, (N.cell.put B N.role.next.1 N.cell.li).2.1) else
  ((true, 0), { N with cell := (N.cell.put B N.role.next.1 N.cell.li).2.2, role := (N.role.claim N.role.next.1).2, tab := putAll N.now N.tab (flowsOf N.mir.cells) }, (N.cell.put B N.role.next.1 N.cell.li).2.1)
/-- What a tick does ahead of its notes. -/
def NodeS.step (N : NodeS) : Bool × NodeS := (N.role.tick.1, { N with now := N.now + 1, tab := N.tab.expire (N.now + 1), role := N.role.tick.2 })
def NodeS.beat (N : NodeS) : Bool := N.role.active && decide (N.now.tmod 3 = 0)
def NodeS.notes (N : NodeS) (claimed : Bool) : List NoteS × NodeS :=
  ((if claimed = true ∨ N.beat = true then [⟨N.id, N.cell.li, N.role.epoch, true, []⟩] else []) ++ (if N.beat = true then [⟨N.id, N.cell.li, N.role.epoch, false, outC N.tab.cells (N.tel.picks N.tab.cells)⟩] else []),
   if N.beat = true then { N with tel := N.tel.next N.tab.cells } else N)
def NodeS.tick (N : NodeS) (B : BytS) : Nat × List NoteS × NodeS × BytS :=
  if N.now ≥ 1099511627776 then (2, [], N, B) else
  if N.step.1 = true then
    (if (N.step.2.claim B).1.2 ≠ 0 then ((N.step.2.claim B).1.2, [], (N.step.2.claim B).2.1, (N.step.2.claim B).2.2)
     else (0, ((N.step.2.claim B).2.1.notes (N.step.2.claim B).1.1).1, ((N.step.2.claim B).2.1.notes (N.step.2.claim B).1.1).2, (N.step.2.claim B).2.2))
  else (0, (N.step.2.notes false).1, (N.step.2.notes false).2, B)
def NodeS.hear (N : NodeS) (x : NoteS) : Nat × NodeS :=
  if x.fro ≠ 1 - N.id ∨ x.epoch < 0 ∨ x.epoch > 1073741824 then (2, N) else
  if x.claim = true then (3, N) else
  if (N.mir.tell x.life x.cells).1 ≠ 0 then ((N.mir.tell x.life x.cells).1, { N with mir := (N.mir.tell x.life x.cells).2 }) else
  (0, { N with mir := (N.mir.tell x.life x.cells).2, role := (N.role.hear x.epoch).2 })
def NodeS.born (id : Int) (C : CelS) (rules : List RuleS) : NodeS := ⟨id, 0, ⟨id, (C.ep : Int), 0, false⟩, C, ⟨2000 + id * 24, emptyCells⟩, tel0, ⟨0, emptyCells⟩, rules⟩
/-- A node begins on bytes with power, by right rules. -/
def newN (id : Int) (B : BytS) (rules : List RuleS) : Nat × NodeS × BytS :=
  (((openS B.data).put B (openS B.data).ep ((openS B.data).li + 1)).1, .born id ((openS B.data).put B (openS B.data).ep ((openS B.data).li + 1)).2.2 rules, ((openS B.data).put B (openS B.data).ep ((openS B.data).li + 1)).2.1)

/-! ### A node in order -/
structure NOk (m : Nat) (N : NodeS) : Prop where
  id : N.id = 0 ∨ N.id = 1
  n0 : 0 ≤ N.now
  n1 : N.now ≤ 1099511627776
  role : N.role.Ok
  rid : N.role.node = N.id
  sil : N.role.silence ≤ m
  num : N.cell.num < 4294967296
  ep : N.cell.ep ≤ 1073741824
  li : N.cell.li ≤ 1073741824
  tab : TOk m N.tab
  lif : N.tab.life = 2000 + N.id * 24
  told : N.tel.told.length = 32
  cur : N.tel.cursor < 32
  mir : N.mir.cells.length = 32
  rules : GoodR N.rules
theorem add_life (T : MirS) (a b c d e f g : Int) : (T.add a b c d e f g).2.life = T.life := by
  unfold MirS.add MirS.lay
  repeat' split
  all_goals rfl
theorem put_life (T : MirS) (f : FlowS) : (T.put f).2.life = T.life := by
  unfold MirS.put MirS.lay
  repeat' split
  all_goals rfl
theorem setS_life (T : MirS) (k a b : Int) : (T.setS k a b).2.life = T.life := by
  unfold MirS.setS
  split <;> rfl
theorem drop_life (T : MirS) (k : Int) : (T.drop k).2.life = T.life := by
  unfold MirS.drop
  split <;> rfl
theorem TOk.mono {m n : Nat} {T : MirS} (h : TOk m T) (hn : m ≤ n) : TOk n T := ⟨h.len, fun c hc => by have := h.ver c hc; omega, h.slot⟩
theorem NOk.mono {m n : Nat} {N : NodeS} (h : NOk m N) (hn : m ≤ n) : NOk n N :=
  ⟨h.id, h.n0, h.n1, h.role, h.rid, by have := h.sil; omega, h.num, h.ep, h.li, h.tab.mono hn, h.lif, h.told, h.cur, h.mir, h.rules⟩
theorem NOk.withTab {m n : Nat} {N : NodeS} {T : MirS} (h : NOk m N) (hn : m ≤ n) (hT : TOk n T) (hl : T.life = N.tab.life) : NOk n { N with tab := T } :=
  ⟨h.id, h.n0, h.n1, h.role, h.rid, by have := h.sil; show N.role.silence ≤ n; omega, h.num, h.ep, h.li, hT, hl.trans h.lif, h.told, h.cur, h.mir, h.rules⟩
theorem NOk.pass {m : Nat} {N : NodeS} (h : NOk m N) (k f : Int) (o : Bool) : NOk (m + 1) (N.pass k f o) := by
  unfold NodeS.pass
  refine h.withTab (Nat.le_succ _) ?_ ?_
  · cases (nextS (flowAt N.tab k).proto (flowAt N.tab k).state f o).2
    · exact h.tab.setS _ _ _
    · exact h.tab.drop _
  · cases (nextS (flowAt N.tab k).proto (flowAt N.tab k).state f o).2
    · exact setS_life _ _ _ _
    · exact drop_life _ _
theorem NOk.begin {m : Nat} {N : NodeS} (h : NOk m N) (p : PktS) : NOk (m + 1) (N.begin p).2 := by
  unfold NodeS.begin
  split
  · exact h.mono (Nat.le_succ _)
  split
  · exact h.mono (Nat.le_succ _)
  · exact h.withTab (Nat.le_succ _) (h.tab.add _ _ _ _ _ _ _) (add_life _ _ _ _ _ _ _ _)
theorem lay_in {T : MirS} (hl : T.cells.length = 32) (f : FlowS) (h : (T.lay f).1.2 = 0) : 0 ≤ (T.lay f).1.1 ∧ (T.lay f).1.1 < 32 := by
  unfold MirS.lay at h ⊢
  split at h
  · exact absurd (show (6 : Nat) = 0 from h) (by decide)
  · rename_i hk
    rw [if_neg hk]
    have := idxI_bound proto0 T.cells 0
    dsimp only
    omega
theorem add_in {T : MirS} (hl : T.cells.length = 32) (a b c d e f g : Int) (h : (T.add a b c d e f g).1.2 = 0) : 0 ≤ (T.add a b c d e f g).1.1 ∧ (T.add a b c d e f g).1.1 < 32 := by
  unfold MirS.add at h ⊢
  split at h
  · exact absurd (show (5 : Nat) = 0 from h) (by decide)
  rename_i h1
  rw [if_neg h1]
  cases hp : portF T a d e 24 0 with
  | none => rw [hp] at h; exact absurd (show (6 : Nat) = 0 from h) (by decide)
  | some i => rw [hp] at h; exact lay_in hl _ h
theorem begin_in {m : Nat} {N : NodeS} (h : NOk m N) (p : PktS) (h0 : (N.begin p).1.2 = 0) : 0 ≤ (N.begin p).1.1 ∧ (N.begin p).1.1 < 32 := by
  unfold NodeS.begin at h0 ⊢
  split at h0
  · exact absurd (show (8 : Nat) = 0 from h0) (by decide)
  rename_i h1
  rw [if_neg h1]
  split at h0
  · rename_i h2
    exact absurd h0 h2
  rename_i h2
  rw [if_neg h2]
  exact add_in h.tab.len _ _ _ _ _ _ _ h0
theorem flowAt_in {m : Nat} {N : NodeS} (h : NOk m N) (k : Int) (h0 : 0 ≤ k) (h1 : k < 32) : ∃ c, N.tab.cells[k.toNat]? = some c ∧ c.f = flowAt N.tab k := by
  have hl : k.toNat < N.tab.cells.length := by rw [h.tab.len]; omega
  refine ⟨_, List.getElem?_eq_getElem hl, ?_⟩
  unfold flowAt
  rw [List.getElem?_eq_getElem hl]

/-! ### What a claim and a tick keep -/
theorem putAll_step (now : Int) (T : MirS) {l : List FlowS} {k : Nat} {f : FlowS} (h : l[k]? = some f) : putAll now T (l.take (k + 1)) = ((putAll now T (l.take k)).put { f with til := now + timeS f.proto f.state }).2 := by
  unfold putAll
  rw [List.take_add_one, h, List.foldl_append]
  rfl
theorem putAll_ok (now : Int) : ∀ (l : List FlowS) {m : Nat} {T : MirS}, TOk m T → TOk (m + l.length) (putAll now T l)
  | [], _, _, h => h
  | f :: l, m, T, h => by
    have := putAll_ok now l (h.put { f with til := now + timeS f.proto f.state })
    rw [List.length_cons, show m + (l.length + 1) = m + 1 + l.length by omega]
    exact this
theorem putAll_life (now : Int) : ∀ (l : List FlowS) (T : MirS), (putAll now T l).life = T.life
  | [], _ => rfl
  | f :: l, T => (putAll_life now l _).trans (put_life _ _)
theorem RoleS.next_pos {r : RoleS} (h : r.Ok) (h0 : r.next.2 = 0) : 0 ≤ r.next.1 ∧ r.next.1 ≤ 1073741824 := by
  have h1 := h.e0
  unfold RoleS.next at h0 ⊢
  dsimp only at h0 ⊢
  generalize hE : (if (r.epoch + 1).tmod 2 ≠ r.node then r.epoch + 1 + 1 else r.epoch + 1) = e at h0 ⊢
  have h3 : e = r.epoch + 1 + 1 ∨ e = r.epoch + 1 := by
    rw [← hE]
    split
    · exact .inl rfl
    · exact .inr rfl
  by_cases h2 : e > 1073741824
  · rw [if_pos h2] at h0
    exact absurd (show (2 : Nat) = 0 from h0) (by decide)
  · rw [if_neg h2]
    dsimp only
    omega
theorem RoleS.claim_next {r : RoleS} (ha : r.active = false) (h0 : r.next.2 = 0) : r.claim r.next.1 = (0, { r with active := true, epoch := r.next.1 }) := by
  unfold RoleS.claim
  rw [if_neg (by rw [ha]; decide), if_neg (fun h => h h0), if_neg (fun h => h rfl)]
theorem nput_num (C : CelS) (B : BytS) (e l : Int) (h : C.num < 4294967296) : (C.put B e l).2.2.num < 4294967296 := by
  unfold CelS.put
  repeat' split
  all_goals dsimp only
  all_goals omega
theorem nput_ok (C : CelS) (B : BytS) (e l : Int) (h : BOk B) : BOk (C.put B e l).2.1 := by
  unfold CelS.put
  repeat' split
  all_goals first | exact h | exact h.cwrite _ _ _
theorem nput_ep (C : CelS) (B : BytS) (e l : Int) (h : C.ep ≤ 1073741824 ∧ C.li ≤ 1073741824) : (C.put B e l).2.2.ep ≤ 1073741824 ∧ (C.put B e l).2.2.li ≤ 1073741824 := by
  unfold CelS.put
  repeat' split
  all_goals dsimp only
  all_goals omega
/-- Put well: its numbers are in bounds, whatever they were. -/
theorem nput_ep0 (C : CelS) (B : BytS) (e l : Int) (h : (C.put B e l).1 = 0) : (C.put B e l).2.2.ep ≤ 1073741824 ∧ (C.put B e l).2.2.li ≤ 1073741824 := by
  unfold CelS.put at h ⊢
  repeat' split at h
  all_goals first | (exact absurd (show (7 : Nat) = 0 from h) (by decide)) | (exact absurd (show (2 : Nat) = 0 from h) (by decide)) | (exact absurd (show (10 : Nat) = 0 from h) (by decide)) | (exact absurd (show (6 : Nat) = 0 from h) (by decide)) | skip
  rename_i h1 h2 h3 h4 h5
  rw [if_neg h1, if_neg h2, if_neg h3, if_neg h4, if_pos h5]
  dsimp only
  omega
theorem NOk.claim {m : Nat} {N : NodeS} (h : NOk m N) (ha : N.role.active = false) (B : BytS) : NOk (m + 33) (N.claim B).2.1 := by
  unfold NodeS.claim
  split
  · exact h.mono (by omega)
  rename_i h1
  have h2 : N.role.next.2 = 0 := Classical.byContradiction h1
  split
  · exact ⟨h.id, h.n0, h.n1, h.role, h.rid, by have := h.sil; show N.role.silence ≤ _; omega, nput_num _ _ _ _ h.num, (nput_ep _ _ _ _ ⟨h.ep, h.li⟩).1, (nput_ep _ _ _ _ ⟨h.ep, h.li⟩).2, h.tab.mono (by omega), h.lif, h.told, h.cur, h.mir, h.rules⟩
  · have hn := RoleS.next_pos h.role h2
    have hl := flowsOf_len N.mir.cells
    rw [h.mir] at hl
    rw [RoleS.claim_next ha h2]
    exact ⟨h.id, h.n0, h.n1, ⟨h.role.n0, hn.1, hn.2, h.role.s0, h.role.s1⟩, h.rid, by have := h.sil; show N.role.silence ≤ _; omega, nput_num _ _ _ _ h.num, (nput_ep _ _ _ _ ⟨h.ep, h.li⟩).1, (nput_ep _ _ _ _ ⟨h.ep, h.li⟩).2, (putAll_ok _ _ h.tab).mono (by omega), (putAll_life _ _ _).trans h.lif, h.told, h.cur, h.mir, h.rules⟩
theorem NodeS.claim_bok {N : NodeS} {B : BytS} (h : BOk B) : BOk (N.claim B).2.2 := by
  unfold NodeS.claim
  split
  · exact h
  split
  all_goals exact nput_ok _ _ _ _ h
theorem NOk.step {m : Nat} {N : NodeS} (h : NOk m N) (hm : m ≤ 50000000) (hn : N.now < 1099511627776) : NOk (m + 1) N.step.2 := by
  have h1 := h.n0
  have h2 := h.sil
  have h3 := h.role.s0
  refine ⟨h.id, ?_, ?_, ?_, ?_, ?_, h.num, h.ep, h.li, h.tab.expire _ _, h.lif, h.told, h.cur, h.mir, h.rules⟩
  · show 0 ≤ N.now + 1
    omega
  · show N.now + 1 ≤ _
    omega
  · show N.role.tick.2.Ok
    unfold RoleS.tick
    split
    · exact h.role
    · exact ⟨h.role.n0, h.role.e0, h.role.e1, by show 0 ≤ N.role.silence + 1; omega, by show N.role.silence + 1 ≤ _; omega⟩
  · show N.role.tick.2.node = N.id
    unfold RoleS.tick
    split <;> exact h.rid
  · show N.role.tick.2.silence ≤ _
    unfold RoleS.tick
    split
    · show N.role.silence ≤ _
      omega
    · show N.role.silence + 1 ≤ _
      omega
theorem step_active {N : NodeS} (h : N.step.1 = true) : N.step.2.role.active = false := by
  show N.role.tick.2.active = false
  have h : N.role.tick.1 = true := h
  unfold RoleS.tick at h ⊢
  split at h
  · cases h
  · rename_i h1
    rw [if_neg h1]
    exact Bool.eq_false_iff.2 h1
theorem NOk.notes {m : Nat} {N : NodeS} (h : NOk m N) (c : Bool) : NOk m (N.notes c).2 := by
  unfold NodeS.notes
  dsimp only
  split
  · exact ⟨h.id, h.n0, h.n1, h.role, h.rid, h.sil, h.num, h.ep, h.li, h.tab, h.lif, told_next _ h.told, (picks_law _ h.cur).cur, h.mir, h.rules⟩
  · exact h
theorem NOk.tick {m : Nat} {N : NodeS} (h : NOk m N) (hm : m ≤ 50000000) (B : BytS) : NOk (m + 34) (N.tick B).2.2.1 := by
  unfold NodeS.tick
  split
  · exact h.mono (by omega)
  rename_i hn
  have h1 := h.step hm (by omega)
  split
  · rename_i hs
    have h2 := h1.claim (step_active hs) B
    split
    · exact h2
    · exact h2.notes (N.step.2.claim B).1.1
  · exact (h1.notes false).mono (by omega)
theorem NodeS.tick_bok {N : NodeS} {B : BytS} (h : BOk B) : BOk (N.tick B).2.2.2 := by
  unfold NodeS.tick
  split
  · exact h
  split
  · split
    all_goals exact NodeS.claim_bok h
  · exact h
theorem NOk.hear {m : Nat} {N : NodeS} (h : NOk m N) (x : NoteS) : NOk m (N.hear x).2 := by
  unfold NodeS.hear
  split
  · exact h
  rename_i h1
  split
  · exact h
  have hl : (N.mir.tell x.life x.cells).2.cells.length = 32 := MirS.tell_len h.mir _ _
  split
  · exact ⟨h.id, h.n0, h.n1, h.role, h.rid, h.sil, h.num, h.ep, h.li, h.tab, h.lif, h.told, h.cur, hl, h.rules⟩
  · refine ⟨h.id, h.n0, h.n1, ?_, ?_, ?_, h.num, h.ep, h.li, h.tab, h.lif, h.told, h.cur, hl, h.rules⟩
    · show (N.role.hear x.epoch).2.Ok
      have h2 := h.role
      unfold RoleS.hear
      rw [if_neg (by omega)]
      dsimp only
      repeat' split
      all_goals exact ⟨h2.n0, by first | exact h2.e0 | (show 0 ≤ x.epoch; omega), by first | exact h2.e1 | (show x.epoch ≤ _; omega), by first | exact h2.s0 | exact Int.le_refl 0, by first | exact h2.s1 | (show (0 : Int) ≤ _; decide)⟩
    · show (N.role.hear x.epoch).2.node = N.id
      have h2 := h.rid
      unfold RoleS.hear
      dsimp only
      repeat' split
      all_goals exact h2
    · show (N.role.hear x.epoch).2.silence ≤ m
      have h2 := h.sil
      have h3 : (0 : Int) ≤ m := Int.natCast_nonneg m
      unfold RoleS.hear
      dsimp only
      repeat' split
      all_goals first | exact h2 | exact h3
end Go.Proofs.YtakdekkieobbaaaGreatDoor

/-
  errors.As at a target of **api.Fault, errors.Is, plain.Code, at the program's own errors.
-/
namespace Go.Proofs.YtakdekkieobbaaaGreatDoor
open Go Ev Go.Extern

/-- A type's handle. -/
def hv (t : TypeId) : Value := .pointer (some ⟨12, t, none⟩)
def rt (t : TypeId) : Value := .iface 230 (.agg #[hv t])
def rvl (t : TypeId) (a : Addr) : List Value := [hv t, .pointer (some a), .int .u64 150]

/-! ### The model's own entries -/
def EX (P : Program) (f : FuncId) (s : Array Value → Sem Value) : Prop := ∀ args w, (callFunc f args).run P w = ((s args).run P w).andThen fun v w' => .ok (.value v) w'
theorem EX.to {P : Program} {f : FuncId} {s : Array Value → Sem Value} (h : EX P f s) {args : Array Value} {w w' : World} {v : Value} (hs : (s args).run P w = .ok v w') : (callFunc f args).run P w = .ok (.value v) w' := by
  rw [h, hs]
  rfl
theorem e_valueOf : EX Tryz.prog 110 (fun args => ReflectliteValue.unpack (args.getD 0 (.tuple #[]))) := fun args w =>
  run_callFunc_extern (e := (fun args => ReflectliteValue.unpack (args.getD 0 (.tuple #[])))) Tryz.func110 (by kernel_rfl) (by kernel_rfl) (by kernel_rfl) (by kernel_rfl) args w
theorem e_type : EX Tryz.prog 111 (ReflectliteValue.methodAny (ReflectliteValue.valueError "reflectlite.Value.Type" 0) (fun t _ _ _ => ReflectliteType.toType t)) := fun args w =>
  run_callFunc_extern (e := (ReflectliteValue.methodAny (ReflectliteValue.valueError "reflectlite.Value.Type" 0) (fun t _ _ _ => ReflectliteType.toType t))) Tryz.func111 (by kernel_rfl) (by kernel_rfl) (by kernel_rfl) (by kernel_rfl) args w
theorem e_isNil : EX Tryz.prog 112 (ReflectliteValue.method (ReflectliteValue.valueError "reflectlite.Value.IsNil" 0) ReflectliteValue.isNil) := fun args w =>
  run_callFunc_extern (e := (ReflectliteValue.method (ReflectliteValue.valueError "reflectlite.Value.IsNil" 0) ReflectliteValue.isNil)) Tryz.func112 (by kernel_rfl) (by kernel_rfl) (by kernel_rfl) (by kernel_rfl) args w
theorem e_kind : EX Tryz.prog 163 (ReflectliteType.abiMethod fun t => do pure (.int .u8 (← Rtype.kind t))) := fun args w =>
  run_callFunc_extern (e := (ReflectliteType.abiMethod fun t => do pure (.int .u8 (← Rtype.kind t)))) Tryz.func163 (by kernel_rfl) (by kernel_rfl) (by kernel_rfl) (by kernel_rfl) args w
theorem e_elem : EX Tryz.prog 179 (ReflectliteType.method ReflectliteType.elem) := fun args w =>
  run_callFunc_extern (e := (ReflectliteType.method ReflectliteType.elem)) Tryz.func179 (by kernel_rfl) (by kernel_rfl) (by kernel_rfl) (by kernel_rfl) args w
theorem e_impl : EX Tryz.prog 180 (ReflectliteType.relation "Implements" ReflectliteType.implements_) := fun args w =>
  run_callFunc_extern (e := (ReflectliteType.relation "Implements" ReflectliteType.implements_)) Tryz.func180 (by kernel_rfl) (by kernel_rfl) (by kernel_rfl) (by kernel_rfl) args w
theorem e_typeOf : EX Tryz.prog 114 ReflectliteType.typeOf := fun args w =>
  run_callFunc_extern (e := ReflectliteType.typeOf) Tryz.func114 (by kernel_rfl) (by kernel_rfl) (by kernel_rfl) (by kernel_rfl) args w
theorem e_assign : EX Tryz.prog 177 (ReflectliteType.relation "AssignableTo" ReflectliteType.assignableTo) := fun args w =>
  run_callFunc_extern (e := (ReflectliteType.relation "AssignableTo" ReflectliteType.assignableTo)) Tryz.func177 (by kernel_rfl) (by kernel_rfl) (by kernel_rfl) (by kernel_rfl) args w

theorem e_comp : EX Tryz.prog 178 (ReflectliteType.method fun t => do Rtype.noPackHeld "Comparable" t; pure (.bool (← typeInfo t).comparable)) := fun args w =>
  run_callFunc_extern (e := ReflectliteType.method fun t => do Rtype.noPackHeld "Comparable" t; pure (.bool (← typeInfo t).comparable)) Tryz.func178 (by kernel_rfl) (by kernel_rfl) (by kernel_rfl) (by kernel_rfl) args w

/-! ### What they give here -/
theorem x_comp (w : World) : (callFunc 178 #[.agg #[hv 247]]).run Tryz.prog w = .ok (.value (.bool true)) w := e_comp.to (by kernel_rfl)
theorem x_valueOf (t : Addr) (w : World) : (callFunc 110 #[.iface 156 (.pointer (some t))]).run Tryz.prog w
    = .ok (.value (.agg (rvl 156 ⟨w.heap.size, 0, none⟩).toArray)) (pushBlk w 156 [.pointer (some t)]) := e_valueOf.to (by kernel_rfl)
theorem x_type (a : Addr) (w : World) : (callFunc 111 #[.agg (rvl 156 a).toArray]).run Tryz.prog w = .ok (.value (rt 156)) w := e_type.to (by kernel_rfl)
theorem x_isNil (a p : Addr) (w : World) (ha : w.cell? a = some (.pointer (some p))) : (callFunc 112 #[.agg (rvl 156 a).toArray]).run Tryz.prog w = .ok (.value (.bool false)) w := by
  refine e_isNil.to ?_
  have hp : (ReflectliteValue.parts (.agg (rvl 156 a).toArray)).run Tryz.prog w = .ok (some (156, a, 150)) w := by kernel_rfl
  rw [show ReflectliteValue.method (ReflectliteValue.valueError "reflectlite.Value.IsNil" 0) ReflectliteValue.isNil #[.agg (rvl 156 a).toArray] = (do match ← ReflectliteValue.parts (.agg (rvl 156 a).toArray) with | none => ReflectliteValue.valueError "reflectlite.Value.IsNil" 0 | some (t, a, fl) => ReflectliteValue.isNil t a fl (fl % 32)) from rfl]
  simp only [Sem.run_bind, hp, Result.andThen]
  simp [ReflectliteValue.isNil, loadVar, isAgg, underlying, Tryz.underlying156, ha, Result.andThen]
theorem x_kind1 (w : World) : (callFunc 163 #[hv 156]).run Tryz.prog w = .ok (.value (.int .u8 22)) w := e_kind.to (by kernel_rfl)
theorem x_kind2 (w : World) : (callFunc 163 #[hv 141]).run Tryz.prog w = .ok (.value (.int .u8 22)) w := e_kind.to (by kernel_rfl)
theorem x_elem (w : World) : (callFunc 179 #[.agg #[hv 156]]).run Tryz.prog w = .ok (.value (rt 141)) w := e_elem.to (by kernel_rfl)
theorem x_impl (w : World) : (callFunc 180 #[.agg #[hv 141], rt 29]).run Tryz.prog w = .ok (.value (.bool true)) w := e_impl.to (by kernel_rfl)
theorem x_typeOf (a : Addr) (w : World) : (callFunc 114 #[.iface 247 (.pointer (some a))]).run Tryz.prog w = .ok (.value (rt 247)) w := e_typeOf.to (by kernel_rfl)
theorem x_assign (w : World) : (callFunc 177 #[.agg #[hv 247], rt 141]).run Tryz.prog w = .ok (.value (.bool false)) w := e_assign.to (by kernel_rfl)

theorem m_kind (h : Value) (w : World) : (Go.method (Tryz.prog.types.size + Made.depth) 230 (.agg #[h]) "Kind").run Tryz.prog w = .ok (163, h) w := by kernel_rfl
theorem m_elem (h : Value) (w : World) : (Go.method (Tryz.prog.types.size + Made.depth) 230 (.agg #[h]) "Elem").run Tryz.prog w = .ok (179, .agg #[h]) w := by kernel_rfl
theorem m_impl (h : Value) (w : World) : (Go.method (Tryz.prog.types.size + Made.depth) 230 (.agg #[h]) "Implements").run Tryz.prog w = .ok (180, .agg #[h]) w := by kernel_rfl
theorem m_assign (h : Value) (w : World) : (Go.method (Tryz.prog.types.size + Made.depth) 230 (.agg #[h]) "AssignableTo").run Tryz.prog w = .ok (177, .agg #[h]) w := by kernel_rfl
theorem m_comp (h : Value) (w : World) : (Go.method (Tryz.prog.types.size + Made.depth) 230 (.agg #[h]) "Comparable").run Tryz.prog w = .ok (178, .agg #[h]) w := by kernel_rfl
end Go.Proofs.YtakdekkieobbaaaGreatDoor

/-
  errors.As, errors.Is and plain.Code, walked at the program's own errors.
-/
namespace Go.Proofs.YtakdekkieobbaaaGreatDoor
open Go Ev Go.Extern

/-- errors' own variable, the handle of the type 'error'. -/
def Handle (w : World) : Prop := w.cell? ⟨11, 0, none⟩ = some (rt 29)
theorem Handle.ext {w w' : World} (h : Handle w) (hx : Ext No w w') : Handle w' := hx.cell h fun h => h

theorem Ev.St.pushed {w0 w : World} {S : Nat → Prop} {H : List Ent} (h : St w0 S w H) (t : TypeId) (cs : List Value) : St w0 S (pushBlk w t cs) (H ++ [Ev.blk w.heap.size t cs]) := by
  refine h.made (Ext.push _ _ _ _) (blk_local _ _ _) (show (w.heap.push _)[w.heap.size]? = _ by rw [Array.getElem?_push, if_pos rfl]) ?_
  intro b hb
  obtain rfl : b = w.heap.size := by simpa [Ev.blk] using hb
  simp [pushBlk]

theorem ta_as (a : Addr) (w : World) : (Instr.typeAssert (.iface 247 (.pointer (some a))) 29 234 true).run Tryz.prog w = .ok (.tuple #[.nilIface, .bool false]) w := run_typeAssert_lacksB Tryz.underlying234 (by kernel_rfl) (by kernel_rfl) _ _ w
theorem ta_un (a : Addr) (w : World) : (Instr.typeAssert (.iface 247 (.pointer (some a))) 29 237 true).run Tryz.prog w = .ok (.tuple #[.nilIface, .bool false]) w := run_typeAssert_lacksB Tryz.underlying237 (by kernel_rfl) (by kernel_rfl) _ _ w
theorem ta_uns (a : Addr) (w : World) : (Instr.typeAssert (.iface 247 (.pointer (some a))) 29 239 true).run Tryz.prog w = .ok (.tuple #[.nilIface, .bool false]) w := run_typeAssert_lacksB Tryz.underlying239 (by kernel_rfl) (by kernel_rfl) _ _ w
theorem ta_is (a : Addr) (w : World) : (Instr.typeAssert (.iface 247 (.pointer (some a))) 29 241 true).run Tryz.prog w = .ok (.tuple #[.nilIface, .bool false]) w := run_typeAssert_lacksB Tryz.underlying241 (by kernel_rfl) (by kernel_rfl) _ _ w

/-- errors.as: no error of this package's own is a Fault. -/
theorem as_miss (e p q : Addr) (w : World) : CallC Tryz.prog 113 #[.iface 247 (.pointer (some e)), .iface 156 (.pointer (some p)), .agg (rvl 156 q).toArray, rt 141] w fun v w' => v = .bool false ∧ Ext No w w' := by
  refine fn_intro tabOk Tryz.func113 (by kernel_rfl) rfl Tryz.ntmps113 (Nat.le_of_ble_eq_true rfl) ?_
  have hS := St.start w No
  (conv => whnf)
  refine hS.new (fun b w' hb hS => ?_)
  (conv => whnf)
  refine loopR tabOk (fun σ w' n => σ = [(3, rt 141), (0, .iface 247 (.pointer (some e)))] ∧ Ext No w w')
    (σ' := [(3, rt 141), (0, .iface 247 (.pointer (some e)))]) (n := 0) ⟨rfl, rfl, trivial⟩ ⟨rfl, hS.ext⟩ ?_
  clear hS
  rintro _ w1 n ⟨rfl, hx⟩
  (conv => whnf)
  refine CallC.extern (x_typeOf e w1) ?_
  (conv => whnf)
  refine ⟨_, _, m_assign _ _, CallC.extern (x_assign w1) ?_⟩
  (conv => whnf)
  refine ⟨_, _, ta_as e w1, ?_⟩
  (conv => whnf)
  refine ⟨_, _, ta_un e w1, ?_⟩
  (conv => whnf)
  refine ⟨_, _, ta_uns e w1, ?_⟩
  repeat' ((conv => whnf); first | refine RetC.mk ?_ | refine NzC.mk (by decide) ?_ | refine RngC.mk (by omega) (by omega) ?_ | refine IdxC.mk (by omega) (by omega) ?_ | refine brD (fun _ => ?_) (fun _ => ?_) | refine brND (fun _ => ?_) (fun _ => ?_) | refine brN (fun _ => ?_) (fun _ => ?_) | refine brI (fun _ => ?_) (fun _ => ?_))
  exact ⟨rfl, hx⟩

theorem errorsAs_miss (e p : Addr) (w : World) (hh : Handle w) : CallC Tryz.prog 66 #[.iface 247 (.pointer (some e)), .iface 156 (.pointer (some p))] w fun v w' => v = .bool false ∧ Ext No w w' := by
  refine fn_intro tabOk Tryz.func66 (by kernel_rfl) rfl Tryz.ntmps66 (Nat.le_of_ble_eq_true rfl) ?_
  have hS := St.start w No
  (conv => whnf)
  refine CallC.extern (x_valueOf p w) ?_
  replace hS := hS.pushed 156 [.pointer (some p)]
  have hb := (hS.blk 0 rfl).cell 0
  have hbl := (hS.blk 0 rfl).lt
  generalize pushBlk w 156 [.pointer (some p)] = w1 at hS hb hbl
  generalize w.heap.size = b1 at hS hb hbl
  (conv => whnf)
  first | refine ZeroC.mk ⟨.agg #[.pointer none, .pointer none, .int .u64 0], by kernel_rfl, ?_⟩ | skip
  (conv => whnf)
  refine hS.new (fun b w2 hb2 hS => ?_)
  (conv => whnf)
  refine hS.st 1 rfl (Nat.le_of_ble_eq_true rfl) rfl (fun w3 hS => ?_)
  (conv => whnf)
  refine hS.la 1 rfl (l := rvl 156 ⟨b1, 0, none⟩) rfl rfl ?_
  (conv => whnf)
  refine CallC.extern (x_type _ w3) ?_
  (conv => whnf)
  refine ⟨_, _, m_kind _ _, CallC.extern (x_kind1 w3) ?_⟩
  (conv => whnf)
  refine PureC.of (fun w => rfl) ?_
  (conv => whnf)
  refine hS.la 1 rfl (l := rvl 156 ⟨b1, 0, none⟩) rfl rfl ?_
  (conv => whnf)
  refine CallC.extern (x_isNil _ p w3 ((hS.blk 0 rfl).cell 0)) ?_
  (conv => whnf)
  refine ⟨_, _, m_elem _ _, CallC.extern (x_elem w3) ?_⟩
  (conv => whnf)
  refine ⟨_, _, m_kind _ _, CallC.extern (x_kind2 w3) ?_⟩
  (conv => whnf)
  refine PureC.of (fun w => rfl) ?_
  (conv => whnf)
  refine hS.ldr hh id ?_
  (conv => whnf)
  refine ⟨_, _, m_impl _ _, CallC.extern (x_impl w3) ?_⟩
  (conv => whnf)
  refine hS.la 1 rfl (l := rvl 156 ⟨b1, 0, none⟩) rfl rfl ?_
  (conv => whnf)
  refine (as_miss e p _ w3).mono ?_
  rintro v w' ⟨rfl, hx⟩
  repeat' ((conv => whnf); first | refine RetC.mk ?_ | refine NzC.mk (by decide) ?_ | refine RngC.mk (by omega) (by omega) ?_ | refine IdxC.mk (by omega) (by omega) ?_ | refine brD (fun _ => ?_) (fun _ => ?_) | refine brND (fun _ => ?_) (fun _ => ?_) | refine brN (fun _ => ?_) (fun _ => ?_) | refine brI (fun _ => ?_) (fun _ => ?_))
  exact ⟨rfl, (hS.no hx).ext⟩

/-- errors.is, one round. -/
theorem is_eq {E : Nat → Addr} {n : Nat} {ks : List Nat} (j k : Nat) (w : World) (hE : Errs w E n ks) (hj : ks.contains j = true) (hk : ks.contains k = true) :
    CallC Tryz.prog 115 #[.iface 247 (.pointer (some (E j))), .iface 247 (.pointer (some (E k))), .bool true] w fun v w' => v = .bool (Nat.beq j k) ∧ Ext No w w' := by
  refine fn_intro tabOk Tryz.func115 (by kernel_rfl) rfl Tryz.ntmps115 (Nat.le_of_ble_eq_true rfl) ?_
  have hS := St.start w No
  (conv => whnf)
  refine loopR tabOk (fun σ w' n => σ = [(2, .bool true), (1, .iface 247 (.pointer (some (E k)))), (0, .iface 247 (.pointer (some (E j))))] ∧ w = w')
    (σ' := [(2, .bool true), (1, .iface 247 (.pointer (some (E k)))), (0, .iface 247 (.pointer (some (E j))))]) (n := 0) ⟨rfl, rfl, rfl, trivial⟩ ⟨rfl, rfl⟩ ?_
  clear hS
  rintro _ w1 n ⟨rfl, rfl⟩
  (conv => whnf)
  obtain ⟨i1, hi1, hcmp⟩ := Option.map_eq_some_iff.1 (show (Tryz.prog.info? 247).map (·.comparable) = some true by kernel_rfl)
  obtain ⟨i2, hi2, hsz⟩ := Option.map_eq_some_iff.1 (show (Tryz.prog.info? 266).map (·.size) = some 1 by kernel_rfl)
  by_cases h : j = k
  · subst h
    refine ⟨_, run_eql_iface_ptr_same w (E j) Tryz.underlying29 Tryz.underlying247 hi1 hcmp hi2, ?_⟩
    repeat' ((conv => whnf); first | refine RetC.mk ?_ | refine NzC.mk (by decide) ?_ | refine RngC.mk (by omega) (by omega) ?_ | refine IdxC.mk (by omega) (by omega) ?_ | refine brD (fun _ => ?_) (fun _ => ?_) | refine brND (fun _ => ?_) (fun _ => ?_) | refine brN (fun _ => ?_) (fun _ => ?_) | refine brI (fun _ => ?_) (fun _ => ?_))
    exact ⟨by rw [Nat.beq_refl], Ext.refl _ _⟩
  · obtain ⟨⟨c1, t1, h1⟩, _⟩ := hE.row j hj
    obtain ⟨⟨c2, t2, h2⟩, _⟩ := hE.row k hk
    refine ⟨_, run_eql_iface_ptr_other w Tryz.underlying29 Tryz.underlying247 hi1 hcmp hi2 (by rw [hsz]; decide) (hE.inj j k hj hk h) h1 h2, ?_⟩
    (conv => whnf)
    refine ⟨_, _, ta_is _ w, ?_⟩
    (conv => whnf)
    refine ⟨_, _, ta_un _ w, ?_⟩
    (conv => whnf)
    refine ⟨_, _, ta_uns _ w, ?_⟩
    repeat' ((conv => whnf); first | refine RetC.mk ?_ | refine NzC.mk (by decide) ?_ | refine RngC.mk (by omega) (by omega) ?_ | refine IdxC.mk (by omega) (by omega) ?_ | refine brD (fun _ => ?_) (fun _ => ?_) | refine brND (fun _ => ?_) (fun _ => ?_) | refine brN (fun _ => ?_) (fun _ => ?_) | refine brI (fun _ => ?_) (fun _ => ?_))
    exact ⟨by rw [show Nat.beq j k = false by cases hb : Nat.beq j k with | false => rfl | true => exact absurd (Nat.eq_of_beq_eq_true hb) h], Ext.refl _ _⟩

theorem errorsIs_eq {E : Nat → Addr} {n : Nat} {ks : List Nat} (j k : Nat) (w : World) (hE : Errs w E n ks) (hj : ks.contains j = true) (hk : ks.contains k = true) :
    CallC Tryz.prog 67 #[.iface 247 (.pointer (some (E j))), .iface 247 (.pointer (some (E k)))] w fun v w' => v = .bool (Nat.beq j k) ∧ Ext No w w' := by
  refine fn_intro tabOk Tryz.func67 (by kernel_rfl) rfl Tryz.ntmps67 (Nat.le_of_ble_eq_true rfl) ?_
  (conv => whnf)
  refine CallC.extern (x_typeOf (E k) w) ?_
  (conv => whnf)
  refine ⟨_, _, m_comp _ _, CallC.extern (x_comp w) ?_⟩
  (conv => whnf)
  refine (is_eq j k w hE hj hk).mono ?_
  rintro v w' ⟨rfl, hx⟩
  repeat' ((conv => whnf); first | refine RetC.mk ?_ | refine NzC.mk (by decide) ?_ | refine RngC.mk (by omega) (by omega) ?_ | refine IdxC.mk (by omega) (by omega) ?_ | refine brD (fun _ => ?_) (fun _ => ?_) | refine brND (fun _ => ?_) (fun _ => ?_) | refine brN (fun _ => ?_) (fun _ => ?_) | refine brI (fun _ => ?_) (fun _ => ?_))
  exact ⟨rfl, hx⟩

def allErrs : List Nat := [1, 2, 3, 4, 5, 6, 7, 8, 9, 10, 11]

theorem elem_at (E : Nat → Addr) : ∀ j : Nat, j < 11 → ([1, 2, 3, 4, 5, 6, 7, 8, 9, 10, 11].map fun k => Value.iface 247 (.pointer (some (E k))))[0 + ((j : Int)).toNat * 1]? = some (.iface 247 (.pointer (some (E (j + 1))))) := by
  intro j hj
  match j, hj with
  | 0, _ | 1, _ | 2, _ | 3, _ | 4, _ | 5, _ | 6, _ | 7, _ | 8, _ | 9, _ | 10, _ => rfl
  | n + 11, h => omega

theorem Ev.LoopC.of {P : Program} {τ : Tab} {N : Nat} {c : Code} {Q : Exit → Slots → World → Prop} {σ : Slots} {w : World} (h : LoopC P τ N c Q σ w) : LoopC P τ N c Q σ w := h

/-- plain.Code of one of the program's own errors, or nil. -/
theorem code_ok {E : Nat → Addr} {n : Nat} (k : Nat) (hk : k < 12) (w : World) (hE : Errs w E n allErrs) (hh : Handle w) :
    CallC Tryz.prog 32 #[errV E k] w fun v w' => v = .tuple #[.int .i64 k, .int .i64 (-1)] ∧ Ext No w w' := by
  cases k with
  | zero =>
    refine fn_intro tabOk Tryz.func32 (by kernel_rfl) rfl Tryz.ntmps32 (Nat.le_of_ble_eq_true rfl) ?_
    repeat' ((conv => whnf); first | refine RetC.mk ?_ | refine NzC.mk (by decide) ?_ | refine RngC.mk (by omega) (by omega) ?_ | refine IdxC.mk (by omega) (by omega) ?_ | refine brD (fun _ => ?_) (fun _ => ?_) | refine brND (fun _ => ?_) (fun _ => ?_) | refine brN (fun _ => ?_) (fun _ => ?_) | refine brI (fun _ => ?_) (fun _ => ?_))
    exact ⟨rfl, Ext.refl _ _⟩
  | succ k =>
    have hin : ∀ j, j < 11 → allErrs.contains (j + 1) = true := by
      intro j hj
      match j, hj with
      | 0, _ | 1, _ | 2, _ | 3, _ | 4, _ | 5, _ | 6, _ | 7, _ | 8, _ | 9, _ | 10, _ => rfl
      | n + 11, h => omega
    refine fn_intro tabOk Tryz.func32 (by kernel_rfl) rfl Tryz.ntmps32 (Nat.le_of_ble_eq_true rfl) ?_
    have hS := St.start w No
    (conv => whnf)
    refine hS.new (fun b w2 hb2 hS => ?_)
    (conv => whnf)
    refine (errorsAs_miss (E (k + 1)) ⟨b, 0, none⟩ w2 (hh.ext hS.ext)).mono ?_
    rintro v w' ⟨rfl, hx⟩
    replace hS := hS.no hx
    repeat' ((conv => whnf); first | refine hS.ldr (hE.at_ 1 rfl) id ?_ | refine hS.ldr (hE.at_ 2 rfl) id ?_ | refine hS.ldr (hE.at_ 3 rfl) id ?_ | refine hS.ldr (hE.at_ 4 rfl) id ?_ | refine hS.ldr (hE.at_ 5 rfl) id ?_ | refine hS.ldr (hE.at_ 6 rfl) id ?_ | refine hS.ldr (hE.at_ 7 rfl) id ?_ | refine hS.ldr (hE.at_ 8 rfl) id ?_ | refine hS.ldr (hE.at_ 9 rfl) id ?_ | refine hS.ldr (hE.at_ 10 rfl) id ?_ | refine hS.ldr (hE.at_ 11 rfl) id ?_)
    refine hS.lit (cs := allErrs.map fun k => Value.iface 247 (.pointer (some (E k)))) Tryz.underlying157 (sz := 1) (by kernel_rfl) (z := .nilIface) (by kernel_rfl) rfl rfl (by kernel_rfl) (fun bs w4 hbs hS => ?_)
    (conv => whnf)
    refine loopR tabOk (fun σ w' n => ∃ j : Nat, σ = [(29, .int .i64 j), (28, .int .i64 11), (27, .slice (some ⟨bs, 0, none⟩) 11 11), (3, .int .i64 (-1)), (0, .iface 247 (.pointer (some (E (k + 1)))))] ∧ n = 11 - j ∧ j ≤ k ∧ St w No w' [blk b 141 [.pointer none], blk bs 29 (allErrs.map fun k => Value.iface 247 (.pointer (some (E k))))])
      (σ' := [(29, .int .i64 ((0 : Nat) : Int)), (28, .int .i64 11), (27, .slice (some ⟨bs, 0, none⟩) 11 11), (3, .int .i64 (-1)), (0, .iface 247 (.pointer (some (E (k + 1)))))]) (n := 11) ⟨rfl, rfl, rfl, rfl, rfl, trivial⟩ ⟨0, rfl, rfl, Nat.zero_le _, hS⟩ ?_
    clear hS hx
    rintro _ w1 n ⟨j, rfl, rfl, hj, hS⟩
    (conv => whnf)
    refine brD (fun h3 => ?_) (fun h3 => ?_)
    · (conv => whnf)
      refine IdxC.mk (by omega) (by omega) ?_
      (conv => whnf)
      refine hS.ld 1 rfl (elem_at E j (by omega)) ?_
      (conv => whnf)
      refine (errorsIs_eq (k + 1) (j + 1) w1 (hE.ext hS.ext (fun _ h => h.elim)) (hin k (by omega)) (hin j (by omega))).mono ?_
      rintro v w' ⟨rfl, hx⟩
      replace hS := hS.no hx
      (conv => whnf)
      refine brI (fun h4 => ?_) (fun h4 => ?_)
      · have : k + 1 = j + 1 := Nat.eq_of_beq_eq_true h4
        obtain rfl : k = j := by omega
        (conv => whnf)
        refine RngC.mk (by omega) (by omega) ?_
        (conv => whnf)
        exact ⟨⟨rfl, hS.ext⟩⟩
      · have : k + 1 ≠ j + 1 := Nat.ne_of_beq_eq_false h4
        (conv => whnf)
        refine RngC.mk (by omega) (by omega) ?_
        (conv => whnf)
        exact LoopE.mk ⟨_, [(29, .int .i64 ((j + 1 : Nat) : Int)), (28, _), (27, _), (3, _), (0, _)], by omega, ⟨rfl, rfl, rfl, rfl, rfl, trivial⟩, ⟨j + 1, rfl, rfl, by omega, hS⟩⟩
    · exfalso; omega

theorem coded2_ok {E : Nat → Addr} {n : Nat} (k : Nat) (c : Int) (hk : k < 12) (w : World) (hE : Errs w E n allErrs) (hh : Handle w) :
    CallC Tryz.prog 10 #[errV E k, .int .i64 c] w fun v w' => v = .bool (decide ((k : Int) = c)) ∧ Ext No w w' := by
  refine fn_intro tabOk Tryz.func10 (by kernel_rfl) rfl Tryz.ntmps10 (Nat.le_of_ble_eq_true rfl) ?_
  (conv => whnf)
  refine (code_ok k hk w hE hh).mono ?_
  rintro v w' ⟨rfl, hx⟩
  repeat' ((conv => whnf); first | refine RetC.mk ?_ | refine NzC.mk (by decide) ?_ | refine RngC.mk (by omega) (by omega) ?_ | refine IdxC.mk (by omega) (by omega) ?_ | refine brD (fun _ => ?_) (fun _ => ?_) | refine brND (fun _ => ?_) (fun _ => ?_) | refine brN (fun _ => ?_) (fun _ => ?_) | refine brI (fun _ => ?_) (fun _ => ?_))
  all_goals refine ⟨?_, hx⟩
  all_goals simp [*]

theorem coded2_same {E : Nat → Addr} {n : Nat} (k : Nat) (hk : k < 12) (w : World) (hE : Errs w E n allErrs) (hh : Handle w) :
    CallC Tryz.prog 10 #[errV E k, .int .i64 k] w fun v w' => v = .bool true ∧ Ext No w w' := by
  have h := coded2_ok k k hk w hE hh
  rwa [decide_eq_true rfl] at h

/-- What the row says of the handle of 'error'. -/
theorem handle_of {L : List (String × DataW Unit)} {W : World} (hl : laidMetH Tryz.prog L W) (hm : ("errors.errorType", .iface "internal/reflectlite.rtype" (.agg [.ptr (.lit (.string [101, 114, 114, 111, 114]))])) ∈ L) : Handle W := by
  have h2 := (laidMetH_iff.1 hl).2 _ (List.mem_filter.2 ⟨hm, rfl⟩)
  obtain ⟨name, u, ty, e1, e2, e3, e4, e5⟩ := h2
  have en : name = [101, 114, 114, 111, 114] := (Option.some.inj e1).symm
  subst en
  obtain rfl := Option.some.inj ((show (Tryz.prog.cutTypes.find? (·.1 == "internal/reflectlite.rtype")).map (·.2) = some 230 by kernel_rfl).symm.trans e2)
  have hm : ty ∈ (List.range Tryz.prog.types.size).filter fun t => Tryz.prog.rowNamed t [101, 114, 114, 111, 114] := List.mem_filter.2 ⟨List.mem_range.2 e3, e4⟩
  rw [show ((List.range Tryz.prog.types.size).filter fun t => Tryz.prog.rowNamed t [101, 114, 114, 111, 114]) = [29] by kernel_rfl] at hm
  obtain rfl := List.mem_singleton.1 hm
  have hh : typeHandle Tryz.prog 29 = hv 29 := by kernel_rfl
  rw [hh] at e5
  have := World.var?_cell (show Tryz.prog.globalNamed "errors.errorType" = some 11 by kernel_rfl) e5 0
  simpa [Handle, rt] using this
end Go.Proofs.YtakdekkieobbaaaGreatDoor

/-
  plain.Code at a fault: errors.As finds it, errors.Is looks through it.
-/
namespace Go.Proofs.YtakdekkieobbaaaGreatDoor
open Go Ev Go.Extern

def rvf (t : TypeId) (a : Addr) : List Value := [hv t, .pointer (some a), .int .u64 406]
theorem e_elemV : EX Tryz.prog 140 (ReflectliteValue.method (ReflectliteValue.valueError "reflectlite.Value.Elem" 0) ReflectliteValue.elem) := fun args w =>
  run_callFunc_extern (e := (ReflectliteValue.method (ReflectliteValue.valueError "reflectlite.Value.Elem" 0) ReflectliteValue.elem)) Tryz.func140 (by kernel_rfl) (by kernel_rfl) (by kernel_rfl) (by kernel_rfl) args w
theorem e_set : EX Tryz.prog 141 ReflectliteValue.set := fun args w =>
  run_callFunc_extern (e := ReflectliteValue.set) Tryz.func141 (by kernel_rfl) (by kernel_rfl) (by kernel_rfl) (by kernel_rfl) args w

theorem x_typeOfF (v : Value) (w : World) : (callFunc 114 #[.iface 141 v]).run Tryz.prog w = .ok (.value (rt 141)) w := e_typeOf.to (by kernel_rfl)
theorem x_assignF (w : World) : (callFunc 177 #[.agg #[hv 141], rt 141]).run Tryz.prog w = .ok (.value (.bool true)) w := e_assign.to (by kernel_rfl)
theorem x_valueOfF (e : Addr) (w : World) : (callFunc 110 #[.iface 141 (.pointer (some e))]).run Tryz.prog w
    = .ok (.value (.agg (rvl 141 ⟨w.heap.size, 0, none⟩).toArray)) (pushBlk w 141 [.pointer (some e)]) := e_valueOf.to (by kernel_rfl)
theorem x_elemV (a p : Addr) (w : World) (ha : w.cell? a = some (.pointer (some p))) : (callFunc 140 #[.agg (rvl 156 a).toArray]).run Tryz.prog w = .ok (.value (.agg (rvf 141 p).toArray)) w := by
  refine e_elemV.to ?_
  have hp : (ReflectliteValue.parts (.agg (rvl 156 a).toArray)).run Tryz.prog w = .ok (some (156, a, 150)) w := by kernel_rfl
  have he : ∀ w, (Rtype.elem? 156).run Tryz.prog w = .ok (some 141) w := fun w => by kernel_rfl
  have hm : ∀ w, (ReflectliteValue.mk 141 p ReflectliteValue.flagAddr).run Tryz.prog w = .ok (.agg (rvf 141 p).toArray) w := fun w => by kernel_rfl
  rw [show ReflectliteValue.method (ReflectliteValue.valueError "reflectlite.Value.Elem" 0) ReflectliteValue.elem #[.agg (rvl 156 a).toArray] = (do match ← ReflectliteValue.parts (.agg (rvl 156 a).toArray) with | none => ReflectliteValue.valueError "reflectlite.Value.Elem" 0 | some (t, a, fl) => ReflectliteValue.elem t a fl (fl % 32)) from rfl]
  simp only [Sem.run_bind, hp, Result.andThen]
  simp [ReflectliteValue.elem, loadVar, isAgg, underlying, Tryz.underlying156, ha, Result.andThen, he, hm]
theorem set_eq (v x : Value) : ReflectliteValue.set #[v, x] = (do
    let (some (dst, a, fl), some (src, b, _)) := (← ReflectliteValue.parts v, ← ReflectliteValue.parts x)
      | unsupported (.noEntry "extern/(internal/reflectlite.Value).Set.zeroValue")
    if fl / ReflectliteValue.flagAddr % 2 == 0 then unsupported (.noEntry "extern/(internal/reflectlite.Value).Set.unaddressable")
    let val ← loadVar src b
    if ← Rtype.directlyAssignable dst src then storeVar dst a val
    else if ← Rtype.implements dst src then
      if (← Rtype.kind src) == 20 then
        match val with
        | .nilIface => unsupported (.noEntry "extern/reflectlite: a nil value of one interface type handed on as a value of another")
        | _ => storeVar dst a val
      else storeVar dst a (.iface src val)
    else panicString ("reflectlite.Set: value of type " ++ (← Rtype.spelt src) ++ " is not assignable to type " ++ (← Rtype.spelt dst))
    pure (.tuple #[])) := rfl
theorem x_set (ta b e : Addr) (old : Value) (w : World) (hb : w.cell? b = some (.pointer (some e))) (ht : w.cell? ta = some old) (hf : w.frozen? ta = false) :
    (callFunc 141 #[.agg (rvf 141 ta).toArray, .agg (rvl 141 b).toArray]).run Tryz.prog w = .ok (.value (.tuple #[])) (w.setCell ta (.pointer (some e))) := by
  refine e_set.to ?_
  have h1 : (ReflectliteValue.parts (.agg (rvf 141 ta).toArray)).run Tryz.prog w = .ok (some (141, ta, 406)) w := by kernel_rfl
  have h2 : (ReflectliteValue.parts (.agg (rvl 141 b).toArray)).run Tryz.prog w = .ok (some (141, b, 150)) w := by kernel_rfl
  have hd : ∀ w, (Rtype.directlyAssignable 141 141).run Tryz.prog w = .ok true w := fun w => by kernel_rfl
  rw [set_eq]
  simp only [Sem.run_bind, h1, h2, Result.andThen]
  simp [ReflectliteValue.flagAddr, loadVar, isAgg, underlying, Tryz.underlying141, hb, Result.andThen, hd, storeVar, Value.cells, storeCells, Addr.add]
  rw [run_store Tryz.prog w ta _ _ (by rfl)]
  simp [ht, hf]

section
variable {w : World} {b : Nat}
theorem as_hit (e : Addr) (bq : Nat) (old : Value) (hq : w.cell? ⟨bq, 0, none⟩ = some (.pointer (some ⟨b, 0, none⟩))) (hne : ¬ bq = b) (hb : Blk w b 141 [old]) : CallC Tryz.prog 113 #[.iface 141 (.pointer (some e)), .iface 156 (.pointer (some ⟨b, 0, none⟩)), .agg (rvl 156 ⟨bq, 0, none⟩).toArray, rt 141] w fun v w' => v = .bool true ∧ Ext (· = b) w w' ∧ Blk w' b 141 [.pointer (some e)] := by
  refine fn_intro tabOk Tryz.func113 (by kernel_rfl) rfl Tryz.ntmps113 (Nat.le_of_ble_eq_true rfl) ?_
  have hS := (St.start w (· = b)).add (blk_local b _ _) hb (by simp [blk]; exact hb.lt) (by simp)
  (conv => whnf)
  refine hS.new (fun b6 w2 hb6 hS => ?_)
  (conv => whnf)
  refine loopR tabOk (fun σ w' n => σ = [(6, .pointer (some ⟨b6, 0, none⟩)), (3, rt 141), (0, .iface 141 (.pointer (some e)))] ∧ St w (· = b) w' [blk b 141 [old], blk b6 198 (rvl 156 ⟨bq, 0, none⟩)] ∧ w'.cell? ⟨bq, 0, none⟩ = some (.pointer (some ⟨b, 0, none⟩)))
    (σ' := [(6, .pointer (some ⟨b6, 0, none⟩)), (3, rt 141), (0, .iface 141 (.pointer (some e)))]) (n := 0) ⟨rfl, rfl, rfl, trivial⟩ ⟨rfl, hS, ?_⟩ ?_
  · exact hS.ext.cell hq hne
  clear hS
  rintro _ w1 n ⟨rfl, hS, hq1⟩
  (conv => whnf)
  refine CallC.extern (x_typeOfF _ w1) ?_
  (conv => whnf)
  refine ⟨_, _, m_assign _ _, CallC.extern (x_assignF w1) ?_⟩
  (conv => whnf)
  refine hS.laX 1 rfl rfl ?_
  (conv => whnf)
  refine CallC.extern (x_elemV ⟨bq, 0, none⟩ ⟨b, 0, none⟩ w1 hq1) ?_
  (conv => whnf)
  refine CallC.extern (x_valueOfF e w1) ?_
  replace hS := hS.pushed 141 [.pointer (some e)]
  have hv := (hS.blk 2 rfl).cell 0
  have hbb := hS.blk 0 rfl
  generalize pushBlk w1 141 [.pointer (some e)] = w3 at hS hv hbb
  generalize w1.heap.size = b3 at hS hv
  (conv => whnf)
  refine CallC.extern (x_set ⟨b, 0, none⟩ ⟨b3, 0, none⟩ e old w3 hv (by rw [hbb.cell]; rfl) (hbb.frozen 0)) ?_
  rw [setCell_eq hbb]
  replace hS := hS.upd (e' := blk b 141 [.pointer (some e)]) 0 rfl (T := (· = b)) (Ext.set (S := (· = b)) (b := b) rfl 141 _) (fun c hc => by simp [Ev.blk, hc]) (blk_local _ _ _) (setBlk_blk hbb.lt) (fun c hc => .inl hc)
  repeat' ((conv => whnf); first | refine RetC.mk ?_ | refine NzC.mk (by decide) ?_ | refine RngC.mk (by omega) (by omega) ?_ | refine IdxC.mk (by omega) (by omega) ?_ | refine brD (fun _ => ?_) (fun _ => ?_) | refine brND (fun _ => ?_) (fun _ => ?_) | refine brN (fun _ => ?_) (fun _ => ?_) | refine brI (fun _ => ?_) (fun _ => ?_))
  exact ⟨rfl, hS.ext, hS.blk 0 rfl⟩
theorem errorsAs_hit (e : Addr) (old : Value) (hh : Handle w) (hb : Blk w b 141 [old]) (hne : ¬ b = 11) : CallC Tryz.prog 66 #[.iface 141 (.pointer (some e)), .iface 156 (.pointer (some ⟨b, 0, none⟩))] w fun v w' => v = .bool true ∧ Ext (· = b) w w' ∧ Blk w' b 141 [.pointer (some e)] := by
  have p : Addr := ⟨b, 0, none⟩
  refine fn_intro tabOk Tryz.func66 (by kernel_rfl) rfl Tryz.ntmps66 (Nat.le_of_ble_eq_true rfl) ?_
  have hS := (St.start w (· = b)).add (blk_local b _ _) hb (by simp [blk]; exact hb.lt) (by simp)
  (conv => whnf)
  refine CallC.extern (x_valueOf ⟨b, 0, none⟩ w) ?_
  replace hS := hS.pushed 156 [.pointer (some ⟨b, 0, none⟩)]
  generalize pushBlk w 156 [.pointer (some ⟨b, 0, none⟩)] = w1 at hS
  generalize w.heap.size = b1 at hS
  (conv => whnf)
  first | refine ZeroC.mk ⟨.agg #[.pointer none, .pointer none, .int .u64 0], by kernel_rfl, ?_⟩ | skip
  (conv => whnf)
  refine hS.new (fun b2 w2 hb2 hS => ?_)
  (conv => whnf)
  refine hS.st 2 rfl (Nat.le_of_ble_eq_true rfl) rfl (fun w3 hS => ?_)
  (conv => whnf)
  refine hS.la 2 rfl (l := rvl 156 ⟨b1, 0, none⟩) rfl rfl ?_
  (conv => whnf)
  refine CallC.extern (x_type _ w3) ?_
  (conv => whnf)
  refine ⟨_, _, m_kind _ _, CallC.extern (x_kind1 w3) ?_⟩
  (conv => whnf)
  refine PureC.of (fun w => rfl) ?_
  (conv => whnf)
  refine hS.la 2 rfl (l := rvl 156 ⟨b1, 0, none⟩) rfl rfl ?_
  (conv => whnf)
  refine CallC.extern (x_isNil _ ⟨b, 0, none⟩ w3 ((hS.blk 1 rfl).cell 0)) ?_
  (conv => whnf)
  refine ⟨_, _, m_elem _ _, CallC.extern (x_elem w3) ?_⟩
  (conv => whnf)
  refine ⟨_, _, m_kind _ _, CallC.extern (x_kind2 w3) ?_⟩
  (conv => whnf)
  refine PureC.of (fun w => rfl) ?_
  (conv => whnf)
  refine hS.ldr hh (fun h => hne h.symm) ?_
  (conv => whnf)
  refine ⟨_, _, m_impl _ _, CallC.extern (x_impl w3) ?_⟩
  (conv => whnf)
  refine hS.la 2 rfl (l := rvl 156 ⟨b1, 0, none⟩) rfl rfl ?_
  (conv => whnf)
  refine (as_hit e b1 old ((hS.blk 1 rfl).cell 0) (fun h => hS.ne 1 0 rfl rfl (by decide) h) (hS.blk 0 rfl)).mono ?_
  rintro v w' ⟨rfl, hx, hB⟩
  replace hS := hS.upd 0 rfl hx (fun c hc => by subst hc; exact List.mem_singleton.2 rfl) (blk_local _ _ _) hB (fun c hc => .inl hc)
  repeat' ((conv => whnf); first | refine RetC.mk ?_ | refine NzC.mk (by decide) ?_ | refine RngC.mk (by omega) (by omega) ?_ | refine IdxC.mk (by omega) (by omega) ?_ | refine brD (fun _ => ?_) (fun _ => ?_) | refine brND (fun _ => ?_) (fun _ => ?_) | refine brN (fun _ => ?_) (fun _ => ?_) | refine brI (fun _ => ?_) (fun _ => ?_))
  exact ⟨rfl, hS.ext, hS.blk 0 rfl⟩

theorem taF_un (v : Value) (w : World) : (Instr.typeAssert (.iface 141 v) 29 237 true).run Tryz.prog w = .ok (.tuple #[.iface 141 v, .bool true]) w := run_typeAssert_hasB Tryz.underlying237 (by kernel_rfl) _ _ w
theorem taF_is (v : Value) (w : World) : (Instr.typeAssert (.iface 141 v) 29 241 true).run Tryz.prog w = .ok (.tuple #[.nilIface, .bool false]) w := run_typeAssert_lacksB Tryz.underlying241 (by kernel_rfl) (by kernel_rfl) _ _ w
theorem mF_un (v : Value) (w : World) : (Go.method (Tryz.prog.types.size + Made.depth) 141 v "Unwrap").run Tryz.prog w = .ok (172, v) w := by kernel_rfl
theorem unwrap_ok {f : Nat} {a e : Value} (hf : Blk w f 143 [a, e]) : CallC Tryz.prog 172 #[.pointer (some ⟨f, 0, none⟩)] w fun v w' => v = e ∧ w = w' := by
  refine fn_intro tabOk Tryz.func172 (by kernel_rfl) rfl Tryz.ntmps172 (Nat.le_of_ble_eq_true rfl) ?_
  (conv => whnf)
  refine ldc (v := e) (by rw [hf.cell]; rfl) ?_
  repeat' ((conv => whnf); first | refine RetC.mk ?_ | refine NzC.mk (by decide) ?_ | refine RngC.mk (by omega) (by omega) ?_ | refine IdxC.mk (by omega) (by omega) ?_ | refine brD (fun _ => ?_) (fun _ => ?_) | refine brND (fun _ => ?_) (fun _ => ?_) | refine brN (fun _ => ?_) (fun _ => ?_) | refine brI (fun _ => ?_) (fun _ => ?_))
  exact ⟨rfl, rfl⟩
theorem isF_eq {E : Nat → Addr} {n f : Nat} {a : Value} {ks : List Nat} (j k : Nat) (w : World) (hE : Errs w E n ks) (hj : ks.contains j = true) (hk : ks.contains k = true) (hf : Blk w f 143 [a, .iface 247 (.pointer (some (E j)))]) :
    CallC Tryz.prog 115 #[.iface 141 (.pointer (some ⟨f, 0, none⟩)), .iface 247 (.pointer (some (E k))), .bool true] w fun v w' => v = .bool (Nat.beq j k) ∧ Ext No w w' := by
  refine fn_intro tabOk Tryz.func115 (by kernel_rfl) rfl Tryz.ntmps115 (Nat.le_of_ble_eq_true rfl) ?_
  have hS := St.start w No
  (conv => whnf)
  refine loopR tabOk (fun σ w' n => (σ = [(2, .bool true), (1, .iface 247 (.pointer (some (E k)))), (0, .iface 141 (.pointer (some ⟨f, 0, none⟩)))] ∧ n = 1 ∨ σ = [(2, .bool true), (1, .iface 247 (.pointer (some (E k)))), (0, .iface 247 (.pointer (some (E j))))] ∧ n = 0) ∧ w = w')
    (σ' := [(2, .bool true), (1, .iface 247 (.pointer (some (E k)))), (0, .iface 141 (.pointer (some ⟨f, 0, none⟩)))]) (n := 1) ⟨rfl, rfl, rfl, trivial⟩ ⟨.inl ⟨rfl, rfl⟩, rfl⟩ ?_
  clear hS
  rintro _ w1 n ⟨⟨rfl, rfl⟩ | ⟨rfl, rfl⟩, rfl⟩
  · (conv => whnf)
    refine ⟨_, run_eql_iface_types _ _ _ _ Tryz.underlying29 (by decide) w, ?_⟩
    (conv => whnf)
    refine ⟨_, _, taF_is _ w, ?_⟩
    (conv => whnf)
    refine ⟨_, _, taF_un _ w, ?_⟩
    (conv => whnf)
    refine ⟨_, _, mF_un _ _, (unwrap_ok hf).mono ?_⟩
    rintro v w' ⟨rfl, rfl⟩
    (conv => whnf)
    refine LoopE.mk ⟨0, [(2, _), (1, _), (0, _)], by decide, ⟨rfl, rfl, rfl, trivial⟩, .inr ⟨rfl, rfl⟩, rfl⟩
  (conv => whnf)
  obtain ⟨i1, hi1, hcmp⟩ := Option.map_eq_some_iff.1 (show (Tryz.prog.info? 247).map (·.comparable) = some true by kernel_rfl)
  obtain ⟨i2, hi2, hsz⟩ := Option.map_eq_some_iff.1 (show (Tryz.prog.info? 266).map (·.size) = some 1 by kernel_rfl)
  by_cases h : j = k
  · subst h
    refine ⟨_, run_eql_iface_ptr_same w (E j) Tryz.underlying29 Tryz.underlying247 hi1 hcmp hi2, ?_⟩
    repeat' ((conv => whnf); first | refine RetC.mk ?_ | refine NzC.mk (by decide) ?_ | refine RngC.mk (by omega) (by omega) ?_ | refine IdxC.mk (by omega) (by omega) ?_ | refine brD (fun _ => ?_) (fun _ => ?_) | refine brND (fun _ => ?_) (fun _ => ?_) | refine brN (fun _ => ?_) (fun _ => ?_) | refine brI (fun _ => ?_) (fun _ => ?_))
    exact ⟨by rw [Nat.beq_refl], Ext.refl _ _⟩
  · obtain ⟨⟨c1, t1, h1⟩, _⟩ := hE.row j hj
    obtain ⟨⟨c2, t2, h2⟩, _⟩ := hE.row k hk
    refine ⟨_, run_eql_iface_ptr_other w Tryz.underlying29 Tryz.underlying247 hi1 hcmp hi2 (by rw [hsz]; decide) (hE.inj j k hj hk h) h1 h2, ?_⟩
    (conv => whnf)
    refine ⟨_, _, ta_is _ w, ?_⟩
    (conv => whnf)
    refine ⟨_, _, ta_un _ w, ?_⟩
    (conv => whnf)
    refine ⟨_, _, ta_uns _ w, ?_⟩
    repeat' ((conv => whnf); first | refine RetC.mk ?_ | refine NzC.mk (by decide) ?_ | refine RngC.mk (by omega) (by omega) ?_ | refine IdxC.mk (by omega) (by omega) ?_ | refine brD (fun _ => ?_) (fun _ => ?_) | refine brND (fun _ => ?_) (fun _ => ?_) | refine brN (fun _ => ?_) (fun _ => ?_) | refine brI (fun _ => ?_) (fun _ => ?_))
    exact ⟨by rw [show Nat.beq j k = false by cases hb : Nat.beq j k with | false => rfl | true => exact absurd (Nat.eq_of_beq_eq_true hb) h], Ext.refl _ _⟩
theorem errorsIsF_eq {E : Nat → Addr} {n f : Nat} {a : Value} {ks : List Nat} (j k : Nat) (w : World) (hE : Errs w E n ks) (hj : ks.contains j = true) (hk : ks.contains k = true) (hf : Blk w f 143 [a, .iface 247 (.pointer (some (E j)))]) :
    CallC Tryz.prog 67 #[.iface 141 (.pointer (some ⟨f, 0, none⟩)), .iface 247 (.pointer (some (E k)))] w fun v w' => v = .bool (Nat.beq j k) ∧ Ext No w w' := by
  refine fn_intro tabOk Tryz.func67 (by kernel_rfl) rfl Tryz.ntmps67 (Nat.le_of_ble_eq_true rfl) ?_
  (conv => whnf)
  refine CallC.extern (x_typeOf (E k) w) ?_
  (conv => whnf)
  refine ⟨_, _, m_comp _ _, CallC.extern (x_comp w) ?_⟩
  (conv => whnf)
  refine (isF_eq j k w hE hj hk hf).mono ?_
  rintro v w' ⟨rfl, hx⟩
  repeat' ((conv => whnf); first | refine RetC.mk ?_ | refine NzC.mk (by decide) ?_ | refine RngC.mk (by omega) (by omega) ?_ | refine IdxC.mk (by omega) (by omega) ?_ | refine brD (fun _ => ?_) (fun _ => ?_) | refine brND (fun _ => ?_) (fun _ => ?_) | refine brN (fun _ => ?_) (fun _ => ?_) | refine brI (fun _ => ?_) (fun _ => ?_))
  exact ⟨rfl, hx⟩
/-- plain.Code of a fault. -/
theorem codeF_ok {E : Nat → Addr} {n f : Nat} {a : Int} (k : Nat) (hk : k < 11) (w : World) (hE : Errs w E n allErrs) (hh : Handle w) (hf : Blk w f 143 [.int .i64 a, errV E (k + 1)]) :
    CallC Tryz.prog 32 #[.iface 141 (.pointer (some ⟨f, 0, none⟩))] w fun v w' => v = .tuple #[.int .i64 ((k + 1 : Nat) : Int), .int .i64 a] ∧ Ext No w w' := by
  have hin : ∀ j, j < 11 → allErrs.contains (j + 1) = true := by
    intro j hj
    match j, hj with
    | 0, _ | 1, _ | 2, _ | 3, _ | 4, _ | 5, _ | 6, _ | 7, _ | 8, _ | 9, _ | 10, _ => rfl
    | n + 11, h => omega
  have hgl : ¬ w.heap.size ≤ 11 := by
    have := cell_lt hh
    simpa using this
  refine fn_intro tabOk Tryz.func32 (by kernel_rfl) rfl Tryz.ntmps32 (Nat.le_of_ble_eq_true rfl) ?_
  have hS := St.start w No
  (conv => whnf)
  refine hS.new (fun b w2 hb2 hS => ?_)
  (conv => whnf)
  refine (errorsAs_hit ⟨f, 0, none⟩ (.pointer none) (hh.ext hS.ext) (hS.blk 0 rfl) (fun h => hgl (by omega))).mono ?_
  rintro v w' ⟨rfl, hx, hB⟩
  replace hS := hS.upd 0 rfl hx (fun c hc => by subst hc; exact List.mem_singleton.2 rfl) (blk_local _ _ _) hB (fun c hc => .inl hc)
  (conv => whnf)
  refine hS.ld 0 rfl rfl ?_
  (conv => whnf)
  refine hS.ldr (v := .int .i64 a) (by rw [hf.cell]; rfl) id ?_
  repeat' ((conv => whnf); first | refine hS.ldr (hE.at_ 1 rfl) id ?_ | refine hS.ldr (hE.at_ 2 rfl) id ?_ | refine hS.ldr (hE.at_ 3 rfl) id ?_ | refine hS.ldr (hE.at_ 4 rfl) id ?_ | refine hS.ldr (hE.at_ 5 rfl) id ?_ | refine hS.ldr (hE.at_ 6 rfl) id ?_ | refine hS.ldr (hE.at_ 7 rfl) id ?_ | refine hS.ldr (hE.at_ 8 rfl) id ?_ | refine hS.ldr (hE.at_ 9 rfl) id ?_ | refine hS.ldr (hE.at_ 10 rfl) id ?_ | refine hS.ldr (hE.at_ 11 rfl) id ?_)
  refine hS.lit (cs := allErrs.map fun k => Value.iface 247 (.pointer (some (E k)))) Tryz.underlying157 (sz := 1) (by kernel_rfl) (z := .nilIface) (by kernel_rfl) rfl rfl (by kernel_rfl) (fun bs w4 hbs hS => ?_)
  replace hS : St w No w4 [blk bs 29 (allErrs.map fun k => Value.iface 247 (.pointer (some (E k))))] := hS.sel [1] (by decide)
  (conv => whnf)
  refine loopR tabOk (fun σ w' n => ∃ j : Nat, σ = [(29, .int .i64 j), (28, .int .i64 11), (27, .slice (some ⟨bs, 0, none⟩) 11 11), (3, .int .i64 a), (0, .iface 141 (.pointer (some ⟨f, 0, none⟩)))] ∧ n = 11 - j ∧ j ≤ k ∧ St w No w' [blk bs 29 (allErrs.map fun k => Value.iface 247 (.pointer (some (E k))))])
    (σ' := [(29, .int .i64 ((0 : Nat) : Int)), (28, .int .i64 11), (27, .slice (some ⟨bs, 0, none⟩) 11 11), (3, .int .i64 a), (0, .iface 141 (.pointer (some ⟨f, 0, none⟩)))]) (n := 11) ⟨rfl, rfl, rfl, rfl, rfl, trivial⟩ ⟨0, rfl, rfl, Nat.zero_le _, hS⟩ ?_
  clear hS hx
  rintro _ w1 n ⟨j, rfl, rfl, hj, hS⟩
  (conv => whnf)
  refine brD (fun h3 => ?_) (fun h3 => ?_)
  · (conv => whnf)
    refine IdxC.mk (by omega) (by omega) ?_
    (conv => whnf)
    refine hS.ld 0 rfl (elem_at E j (by omega)) ?_
    (conv => whnf)
    refine (errorsIsF_eq (k + 1) (j + 1) w1 (hE.ext hS.ext (fun _ h => h.elim)) (hin k (by omega)) (hin j (by omega)) (hS.ext.blk hf id)).mono ?_
    rintro v w' ⟨rfl, hx⟩
    replace hS := hS.no hx
    (conv => whnf)
    refine brI (fun h4 => ?_) (fun h4 => ?_)
    · have : k + 1 = j + 1 := Nat.eq_of_beq_eq_true h4
      obtain rfl : k = j := by omega
      (conv => whnf)
      refine RngC.mk (by omega) (by omega) ?_
      (conv => whnf)
      exact ⟨⟨rfl, hS.ext⟩⟩
    · have : k + 1 ≠ j + 1 := Nat.ne_of_beq_eq_false h4
      (conv => whnf)
      refine RngC.mk (by omega) (by omega) ?_
      (conv => whnf)
      exact LoopE.mk ⟨_, [(29, .int .i64 ((j + 1 : Nat) : Int)), (28, _), (27, _), (3, _), (0, _)], by omega, ⟨rfl, rfl, rfl, rfl, rfl, trivial⟩, ⟨j + 1, rfl, rfl, by omega, hS⟩⟩
  · exfalso; omega
theorem codeV_ok {E : Nat → Addr} {n k : Nat} {a : Int} {w0 : World} {v : Value} (h : FaultV E w0 w v k a) (hk : k < 12) (hE : Errs w E n allErrs) (hh : Handle w) :
    CallC Tryz.prog 32 #[v] w fun v w' => v = .tuple #[.int .i64 (k : Int), .int .i64 a] ∧ Ext No w w' := by
  rcases h with ⟨rfl, rfl⟩ | ⟨_, h2, f, rfl, _, hf⟩
  · exact code_ok k hk w hE hh
  · obtain ⟨j, rfl⟩ : ∃ j, k = j + 1 := ⟨k - 1, by omega⟩
    exact codeF_ok j (by omega) w hE hh hf
end

/-! ### An error value that a call made, among what is known -/
def fvFoot : Value → List Nat
  | .iface t (.pointer (some ⟨f, _, _⟩)) => match Nat.beq t 141 with | true => [f] | false => []
  | _ => []
def fvE (E : Nat → Addr) (v : Value) (c : Nat) (a : Int) : Ent := ⟨fvFoot v, fun w => ∃ w0, FaultV E w0 w v c a⟩
theorem fv_foot {E : Nat → Addr} {w0 w : World} {v : Value} {c : Nat} {a : Int} (h : FaultV E w0 w v c a) : fvFoot v = [] ∧ v = errV E c ∧ a = -1 ∨ ∃ f, fvFoot v = [f] ∧ v = .iface 141 (.pointer (some ⟨f, 0, none⟩)) ∧ w0.heap.size ≤ f ∧ f < w.heap.size := by
  rcases h with ⟨h1, rfl⟩ | ⟨h1, h2, f, rfl, h3, h4⟩
  · refine .inl ⟨?_, rfl, h1⟩
    cases c <;> rfl
  · exact .inr ⟨f, rfl, rfl, h3, h4.lt⟩
theorem fvE_local (E : Nat → Addr) (v : Value) (c : Nat) (a : Int) : (fvE E v c a).Local := by
  rintro w w' h ⟨w0, hf⟩
  rcases hf with hf | ⟨h1, h2, f, rfl, h3, h4⟩
  · exact ⟨w0, .inl hf⟩
  · exact ⟨w0, .inr ⟨h1, h2, f, rfl, h3, (h f (by simp [fvE, fvFoot])).trans h4⟩⟩
theorem Ev.St.fault {w0 w w' : World} {S : Nat → Prop} {H : List Ent} (h : St w0 S w H) {E : Nat → Addr} {v : Value} {c : Nat} {a : Int} (hx : Ext No w w') (hf : FaultV E w w' v c a) : St w0 S w' (H ++ [fvE E v c a]) := by
  refine h.made hx (fvE_local _ _ _ _) ⟨w, hf⟩ fun b hb => ?_
  rcases fv_foot hf with ⟨h1, _⟩ | ⟨f, h1, _, h2, h3⟩
  · rw [show (fvE E v c a).foot = fvFoot v from rfl, h1] at hb
    cases hb
  · rw [show (fvE E v c a).foot = fvFoot v from rfl, h1] at hb
    obtain rfl : b = f := by simpa using hb
    exact ⟨h2, h3⟩
end Go.Proofs.YtakdekkieobbaaaGreatDoor

/-
  Package node, walked: passing a packet.
-/
namespace Go.Proofs.YtakdekkieobbaaaGreatDoor
open Go Ev

theorem Ev.St.ref {w0 w : World} {S : Nat → Prop} {H : List Ent} (_ : St w0 S w H) (T : Nat → Prop) : Ext T w w := Ext.refl _ _
/-- A store in a drawn region. -/
theorem Ev.St.stK {w0 w1 w : World} {S T : Nat → Prop} {H : List Ent} (h : St w0 S w H) (hK : Ext T w1 w) (i : Nat) {b o : Nat} {t : TypeId} {cs vs : List Value} {k : World → Prop} (hi : H[i]? = some (Ev.blk b t cs)) (hle : o + vs.length ≤ cs.length) (h1 : vs.all isOne = true) (hT : T b)
    (hk : ∀ w', Ext T w1 w' → St w0 S w' (H.set i (Ev.blk b t (over cs o vs))) → k w') : StC w b o vs k := by
  have hb := h.blk i hi
  have hx : Ext (· = b) w (setBlk w b t (over cs o vs)) := Ext.set (S := (· = b)) (b := b) rfl t _
  exact ⟨t, cs, hb, hle, by simpa using h1, hk _ (hK.trans (hx.mono fun c hc => hc ▸ hT)) (h.upd i hi hx (fun c hc => by simp [Ev.blk, hc]) (blk_local _ _ _) (setBlk_blk hb.lt) (fun c hc => .inl hc))⟩

structure NodeA where
  n : Nat
  r : Nat
  c : Nat
  t : Nat
  x : Nat
  m : Nat
  b : Nat
  ra : Option Addr
  rc : Nat
def encNode (A : NodeA) (N : NodeS) : List Value := [.pointer (some ⟨A.r, 0, none⟩), .int .i64 N.id, .int .i64 N.now, .pointer (some ⟨A.c, 0, none⟩), .pointer (some ⟨A.t, 0, none⟩), .pointer (some ⟨A.x, 0, none⟩), .pointer (some ⟨A.m, 0, none⟩), .slice A.ra N.rules.length A.rc]
def nodeH (A : NodeA) (N : NodeS) : List Ent := [blk A.n 66 (encNode A N), blk A.r 127 (encRole N.role), blk A.c 145 (encCl A.b N.cell), blk A.t 138 (encM N.tab), blk A.x 151 (encTel A.t N.tel), blk A.m 153 (encM N.mir), ownL 85 5 encRule (.slice A.ra N.rules.length A.rc) N.rules]
/-- The blocks are younger than the errors. -/
def High (H : List Ent) (q : Nat) : Prop := ∀ b, inF H b → q ≤ b
theorem flowErr_find {T : MirS} (hl : T.cells.length = 32) (p : FlowS → Bool) (h : 0 ≤ idxI (there p) T.cells 0) : T.flowErr (idxI (there p) T.cells 0) = 0 ∧ ∃ c, T.cells[(idxI (there p) T.cells 0).toNat]? = some c ∧ c.f = flowAt T (idxI (there p) T.cells 0) ∧ c.f.proto ≠ 0 ∧ idxI (there p) T.cells 0 < 32 := by
  obtain ⟨j, c, hj, hp, he, _⟩ := idxI_spec (there p) T.cells 0 h
  have lt := (List.getElem?_eq_some_iff.1 hj).1
  have hjj : (idxI (there p) T.cells 0).toNat = j := by omega
  have hc : c.f.proto ≠ 0 := by
    unfold there at hp
    simp only [Bool.and_eq_true, decide_eq_true_eq] at hp
    exact hp.1
  refine ⟨?_, c, by rw [hjj]; exact hj, ?_, hc, by omega⟩
  · unfold MirS.flowErr
    rw [if_neg (by omega), hjj, hj]
    exact if_neg hc
  · unfold flowAt
    rw [hjj, hj]

section
variable {w : World} {A : NodeA} {N : NodeS}
theorem timeS_bound (p s : Int) : 0 ≤ timeS p s ∧ timeS p s ≤ 100 := by
  unfold timeS
  repeat' split
  all_goals omega
theorem npass_ok {E : Nat → Addr} {q m : Nat} (k : Int) (p : PktS) (out : Bool) (hN : Has w (nodeH A N)) (hO : NOk m N) (hm : m ≤ 50000000) (hk : N.tab.flowErr k = 0) (hE : Errs w E q allErrs) (hq : High (nodeH A N) q) :
    CallC Tryz.prog 74 #[.pointer (some ⟨A.n, 0, none⟩), .int .i64 k, .agg (encPkt p).toArray, .bool out] w fun v w' => v = .tuple #[.agg (encFlow (flowAt N.tab k)).toArray, .nilIface] ∧ Turns w w' (nodeH A N) (nodeH A (N.pass k p.flags out)) := by
  have hv := hO.tab.verOk (by omega)
  have hin : 0 ≤ k ∧ k < 32 := by
    unfold MirS.flowErr at hk
    split at hk
    · omega
    · omega
  obtain ⟨c, hc⟩ : ∃ c, N.tab.cells[k.toNat]? = some c := ⟨_, List.getElem?_eq_getElem (by rw [hO.tab.len]; omega)⟩
  have hcf : c.f = flowAt N.tab k := by unfold flowAt; rw [hc]
  have hd : (N.tab.drop k).1 = 0 := by unfold MirS.drop; rw [if_neg (by omega)]
  have hs : ∀ a b, (N.tab.setS k a b).1 = 0 := fun a b => by unfold MirS.setS; rw [if_neg (by omega)]
  refine fn_intro tabOk Tryz.func74 (by kernel_rfl) rfl Tryz.ntmps74 (Nat.le_of_ble_eq_true rfl) ?_
  have hS := hN.start
  (conv => whnf)
  refine hS.new (fun bp w' hbp hS => ?_)
  (conv => whnf)
  refine hS.new (fun bf w' hbf hS => ?_)
  (conv => whnf)
  refine hS.ld 0 rfl rfl ?_
  (conv => whnf)
  refine (tget_ok k (hS.blk 3 rfl) hin.1 hin.2 hc).mono ?_
  rintro v w2 ⟨rfl, hx⟩
  replace hS := hS.no hx
  (conv => whnf)
  refine hS.new (fun bc w' hbc hS => ?_)
  (conv => whnf)
  refine hS.st 9 rfl (Nat.le_of_ble_eq_true rfl) rfl (fun w' hS => ?_)
  replace hS : St w (inF (nodeH A N)) w' (nodeH A N ++ [blk bp 50 (encPkt p), blk bf 133 (encFlow noFlow), blk bc 135 (encCell c)]) := hS
  repeat' ((conv => whnf); first | refine RetC.mk ?_ | refine NzC.mk (by decide) ?_ | refine RngC.mk (by omega) (by omega) ?_ | refine IdxC.mk (by omega) (by omega) ?_ | refine hS.ld 0 rfl rfl ?_ | refine hS.ld 1 rfl rfl ?_ | refine hS.ld 2 rfl rfl ?_ | refine hS.ld 3 rfl rfl ?_ | refine hS.ld 4 rfl rfl ?_ | refine hS.ld 5 rfl rfl ?_ | refine hS.ld 6 rfl rfl ?_ | refine hS.ld 7 rfl rfl ?_ | refine hS.ld 8 rfl rfl ?_ | refine hS.ld 9 rfl rfl ?_ | refine hS.laX 0 rfl rfl ?_ | refine hS.laX 1 rfl rfl ?_ | refine hS.laX 2 rfl rfl ?_ | refine hS.laX 3 rfl rfl ?_ | refine hS.laX 4 rfl rfl ?_ | refine hS.laX 5 rfl rfl ?_ | refine hS.laX 6 rfl rfl ?_ | refine hS.laX 7 rfl rfl ?_ | refine hS.laX 8 rfl rfl ?_ | refine hS.laX 9 rfl rfl ?_ | (refine (next_ok c.f.proto c.f.state p.flags out _).mono ?_; rintro v w3 ⟨rfl, rfl⟩) | refine brD (fun _ => ?_) (fun _ => ?_) | refine brND (fun _ => ?_) (fun _ => ?_) | refine brN (fun _ => ?_) (fun _ => ?_) | refine brI (fun _ => ?_) (fun _ => ?_))
  all_goals
    have hqF : ∀ b, inF (nodeH A N) b → q ≤ b := hq
    have hn1 := hS.ne 0 3 rfl rfl (by decide)
    have hn2 := hS.ne 0 8 rfl rfl (by decide)
    have hn3 := hS.ne 9 3 rfl rfl (by decide)
    have hn4 := hS.ne 9 8 rfl rfl (by decide)
    (conv => whnf)
  · rename_i hg
    have hgone : N.pass k p.flags out = { N with tab := (N.tab.drop k).2 } := by
      unfold NodeS.pass
      rw [← hcf, hg]
    (refine drawS tabOk mixed [] (fun b => b = A.t ∨ b = bf) [0, 1, 2, 3, 4, 5, 6, 7, 8, 9] (by kernel_rfl) ?_; rintro w1 rfl; replace hS := hS.drew)
    have hK := hS.ref (fun b => b = A.t ∨ b = bf)
    repeat' ((conv => whnf); first | refine hS.laXF 9 rfl rfl (fun h => h.elim hn3 hn4) ?_ | refine hS.ldF 0 rfl rfl (fun h => h.elim hn1 hn2) ?_)
    refine (tdrop_ok k (hS.blk 3 rfl) hO.tab.len hv ((hE.ext hS.ext hqF).sub rfl)).mono ?_
    rintro v w' ⟨rfl, hx, hB⟩
    replace hS := hS.upd 3 rfl hx (fun c hc => by subst hc; exact List.mem_singleton.2 rfl) (blk_local _ _ _) hB (fun c hc => .inl hc)
    replace hK := hK.trans (hx.mono fun c hc => .inl hc)
    refine KeepC.mk hK ?_
    (conv => whnf)
    refine hS.stK hK 8 rfl (Nat.le_of_ble_eq_true rfl) rfl (.inr rfl) (fun w' hK hS => KeepC.mk hK ?_)
    (conv => whnf)
    refine hS.laX 8 rfl rfl ?_
    repeat' ((conv => whnf); first | refine RetC.mk ?_ | refine NzC.mk (by decide) ?_ | refine RngC.mk (by omega) (by omega) ?_ | refine IdxC.mk (by omega) (by omega) ?_ | refine brD (fun _ => ?_) (fun _ => ?_) | refine brND (fun _ => ?_) (fun _ => ?_) | refine brN (fun _ => ?_) (fun _ => ?_) | refine brI (fun _ => ?_) (fun _ => ?_))
    rw [hd, hgone]
    exact ⟨by rw [← hcf]; rfl, (hS.keep 7).turns⟩
  · rename_i hg
    have hstay : N.pass k p.flags out = { N with tab := (N.tab.setS k (nextS c.f.proto c.f.state p.flags out).1 (N.now + timeS c.f.proto (nextS c.f.proto c.f.state p.flags out).1)).2 } := by
      unfold NodeS.pass
      rw [← hcf, hg]
    (refine drawS tabOk mixed [] (fun b => b = A.t ∨ b = bf) [0, 1, 2, 3, 4, 5, 6, 7, 8, 9, 10, 11, 12, 13, 14, 15, 16, 17, 18, 19, 20] (by kernel_rfl) ?_; rintro w1 rfl; replace hS := hS.drew)
    have hK := hS.ref (fun b => b = A.t ∨ b = bf)
    repeat' ((conv => whnf); first | refine hS.laXF 9 rfl rfl (fun h => h.elim hn3 hn4) ?_ | refine hS.ldF 9 rfl rfl (fun h => h.elim hn3 hn4) ?_ | refine hS.ldF 0 rfl rfl (fun h => h.elim hn1 hn2) ?_)
    refine (time_ok _ _ _).mono ?_
    rintro v w' ⟨rfl, hx⟩
    replace hS := hS.no hx
    replace hK := hK.trans hx.of_no
    refine KeepC.mk hK ?_
    have htb := timeS_bound c.f.proto (nextS c.f.proto c.f.state p.flags out).1
    have hn0 := hO.n0
    have hn9 := hO.n1
    repeat' ((conv => whnf); first | refine RetC.mk ?_ | refine NzC.mk (by decide) ?_ | refine RngC.mk (by omega) (by omega) ?_ | refine IdxC.mk (by omega) (by omega) ?_ | refine brD (fun _ => ?_) (fun _ => ?_) | refine brND (fun _ => ?_) (fun _ => ?_) | refine brN (fun _ => ?_) (fun _ => ?_) | refine brI (fun _ => ?_) (fun _ => ?_))
    refine (tset_ok k _ _ (hS.blk 3 rfl) hO.tab.len hv ((hE.ext hS.ext hqF).sub rfl)).mono ?_
    rintro v w' ⟨rfl, hx, hB⟩
    replace hS := hS.upd 3 rfl hx (fun c hc => by subst hc; exact List.mem_singleton.2 rfl) (blk_local _ _ _) hB (fun c hc => .inl hc)
    replace hK := hK.trans (hx.mono fun c hc => .inl hc)
    refine KeepC.mk hK ?_
    (conv => whnf)
    refine hS.stK hK 8 rfl (Nat.le_of_ble_eq_true rfl) rfl (.inr rfl) (fun w' hK hS => KeepC.mk hK ?_)
    (conv => whnf)
    refine hS.laX 8 rfl rfl ?_
    repeat' ((conv => whnf); first | refine RetC.mk ?_ | refine NzC.mk (by decide) ?_ | refine RngC.mk (by omega) (by omega) ?_ | refine IdxC.mk (by omega) (by omega) ?_ | refine brD (fun _ => ?_) (fun _ => ?_) | refine brND (fun _ => ?_) (fun _ => ?_) | refine brN (fun _ => ?_) (fun _ => ?_) | refine brI (fun _ => ?_) (fun _ => ?_))
    rw [hs, hstay]
    exact ⟨by rw [← hcf]; rfl, (hS.keep 7).turns⟩

theorem Errs.out {E : Nat → Addr} {n : Nat} {ks : List Nat} {S : Nat → Prop} (h : Errs w E n ks) (k : Nat) (hk : ks.contains k = true) (hS : ∀ b, S b → n ≤ b) : ¬ S (gErr k) := fun hs => by
  have := hS _ hs
  have := h.lt k hk
  omega
theorem nbegin_ok {E : Nat → Addr} {q m : Nat} (p : PktS) (hN : Has w (nodeH A N)) (hO : NOk m N) (hm : m ≤ 50000000) (hp : p.err = 0) (hE : Errs w E q allErrs) (hq : High (nodeH A N) q) :
    CallC Tryz.prog 75 #[.pointer (some ⟨A.n, 0, none⟩), .agg (encPkt p).toArray] w fun v w' => v = .tuple #[.int .i64 (N.begin p).1.1, errV E (N.begin p).1.2] ∧ Turns w w' (nodeH A N) (nodeH A (N.begin p).2) := by
  have hv := hO.tab.verOk (by omega)
  have hg : (faultL N.rules).1 = 0 := fault_good.2 hO.rules
  have hqF : ∀ b, inF (nodeH A N) b → q ≤ b := hq
  have hlif : 0 ≤ N.tab.life ∧ N.tab.life ≤ 100000 := by
    have := hO.lif
    have := hO.id
    omega
  refine fn_intro tabOk Tryz.func75 (by kernel_rfl) rfl Tryz.ntmps75 (Nat.le_of_ble_eq_true rfl) ?_
  have hS := hN.start
  (conv => whnf)
  refine hS.new (fun bp w' hbp hS => ?_)
  replace hS : St w (inF (nodeH A N)) w' (nodeH A N ++ [blk bp 50 (encPkt p)]) := hS
  (conv => whnf)
  (refine drawS tabOk mixed [] No [0, 1, 2, 3, 4, 5, 6, 7, 8, 9, 10] (by kernel_rfl) ?_; rintro w1 rfl; replace hS := hS.drew)
  repeat' ((conv => whnf); first | refine hS.laXF 7 rfl rfl id ?_ | refine hS.ldF 0 rfl rfl id ?_)
  refine (admitsP_ok (G := fun _ => True) (ownL_slc codRule (hS.get 6 rfl) (fun _ _ => trivial)) p true ((hE.ext hS.ext hqF).sub rfl)).mono ?_
  rintro v w2 ⟨⟨e, rfl, hF⟩, hx⟩
  rw [if_pos hg, if_pos hg, hp] at hF
  obtain rfl : e = .nilIface := by
    rcases hF with ⟨_, h⟩ | ⟨h, _⟩
    · exact h
    · omega
  rw [show (decide (GoodR N.rules ∧ p.err = 0) && admitsL p.proto p.dp true N.rules) = admitsL p.proto p.dp true N.rules by rw [decide_eq_true ⟨hO.rules, hp⟩, Bool.true_and]]
  replace hS := hS.no hx
  refine KeepC.mk hx ?_
  cases hA : admitsL p.proto p.dp true N.rules
  · have hb : N.begin p = ((0, 8), N) := if_pos hA
    rw [hb]
    (conv => whnf)
    (refine drawS tabOk mixed [] No [0, 1, 2] (by kernel_rfl) ?_; rintro w1 rfl; replace hS := hS.drew)
    (conv => whnf)
    refine hS.ldrF (hE.at_ 8 rfl) (Errs.out hE 8 rfl hqF) id ?_
    repeat' ((conv => whnf); first | refine RetC.mk ?_ | refine NzC.mk (by decide) ?_ | refine RngC.mk (by omega) (by omega) ?_ | refine IdxC.mk (by omega) (by omega) ?_ | refine brD (fun _ => ?_) (fun _ => ?_) | refine brND (fun _ => ?_) (fun _ => ?_) | refine brN (fun _ => ?_) (fun _ => ?_) | refine brI (fun _ => ?_) (fun _ => ?_))
    exact ⟨rfl, (hS.keep 7).turns⟩
  · (conv => whnf)
    refine hS.ld 7 rfl rfl ?_
    (conv => whnf)
    refine hS.ld 7 rfl rfl ?_
    (conv => whnf)
    refine (begin_ok _ _ _ ((hE.ext hS.ext hqF).sub rfl)).mono ?_
    rintro v w3 ⟨rfl, hx⟩
    replace hS := hS.no hx
    have hb : N.begin p = _ := if_neg (by rw [hA]; decide)
    rw [hb]
    clear hb hF
    generalize beginS p.proto p.flags = r
    obtain ⟨s, kk⟩ := r
    cases kk with
    | succ j =>
      rw [if_pos (show ((s, j + 1) : Int × Nat).2 ≠ 0 by simp)]
      repeat' ((conv => whnf); first | refine RetC.mk ?_ | refine NzC.mk (by decide) ?_ | refine RngC.mk (by omega) (by omega) ?_ | refine IdxC.mk (by omega) (by omega) ?_ | refine brD (fun _ => ?_) (fun _ => ?_) | refine brND (fun _ => ?_) (fun _ => ?_) | refine brN (fun _ => ?_) (fun _ => ?_) | refine brI (fun _ => ?_) (fun _ => ?_))
      exact ⟨rfl, (hS.keep 7).turns⟩
    | zero =>
      rw [if_neg (show ¬ ((s, 0) : Int × Nat).2 ≠ 0 by simp)]
      dsimp only
      have htb := timeS_bound p.proto s
      have hn0 := hO.n0
      have hn9 := hO.n1
      have hn1 := hS.ne 0 3 rfl rfl (by decide)
      have hn2 := hS.ne 7 3 rfl rfl (by decide)
      (conv => whnf)
      (refine drawS tabOk mixed [] (fun b => b = A.t) [0, 1, 2, 3, 4, 5, 6, 7, 8, 9, 10, 11, 12, 13, 14, 15, 16, 17, 18, 19, 20, 21, 22, 23, 24] (by kernel_rfl) ?_; rintro w1 rfl; replace hS := hS.drew)
      have hK := hS.ref (fun b => b = A.t)
      repeat' ((conv => whnf); first | refine hS.laXF 7 rfl rfl hn2 ?_ | refine hS.ldF 7 rfl rfl hn2 ?_ | refine hS.ldF 0 rfl rfl hn1 ?_)
      refine (time_ok _ _ _).mono ?_
      rintro v w' ⟨rfl, hx⟩
      replace hS := hS.no hx
      replace hK := hK.trans hx.of_no
      refine KeepC.mk hK ?_
      repeat' ((conv => whnf); first | refine RetC.mk ?_ | refine NzC.mk (by decide) ?_ | refine RngC.mk (by omega) (by omega) ?_ | refine IdxC.mk (by omega) (by omega) ?_ | refine brD (fun _ => ?_) (fun _ => ?_) | refine brND (fun _ => ?_) (fun _ => ?_) | refine brN (fun _ => ?_) (fun _ => ?_) | refine brI (fun _ => ?_) (fun _ => ?_))
      refine (tadd_ok _ _ _ _ _ _ _ (hS.blk 3 rfl) hO.tab.len hv hlif ((hE.ext hS.ext hqF).sub rfl) (hqF A.t ⟨_, List.mem_of_getElem? (i := 3) rfl, List.mem_singleton.2 rfl⟩)).mono ?_
      rintro v w' ⟨rfl, hx, hB⟩
      replace hS := hS.upd 3 rfl hx (fun c hc => by subst hc; exact List.mem_singleton.2 rfl) (blk_local _ _ _) hB (fun c hc => .inl hc)
      replace hK := hK.trans hx
      refine KeepC.mk hK ?_
      repeat' ((conv => whnf); first | refine RetC.mk ?_ | refine NzC.mk (by decide) ?_ | refine RngC.mk (by omega) (by omega) ?_ | refine IdxC.mk (by omega) (by omega) ?_ | refine brD (fun _ => ?_) (fun _ => ?_) | refine brND (fun _ => ?_) (fun _ => ?_) | refine brN (fun _ => ?_) (fun _ => ?_) | refine brI (fun _ => ?_) (fun _ => ?_))
      exact ⟨rfl, (hS.keep 7).turns⟩
end
end Go.Proofs.YtakdekkieobbaaaGreatDoor

/-
  Package node, walked: packets from inside and from outside.
-/
namespace Go.Proofs.YtakdekkieobbaaaGreatDoor
open Go Ev
section
variable {w : World} {A : NodeA} {N : NodeS}
theorem nodeH_n : inF (nodeH A N) A.n := ⟨_, List.mem_of_getElem? (i := 0) rfl, List.mem_singleton.2 rfl⟩
theorem nodeH_r : inF (nodeH A N) A.r := ⟨_, List.mem_of_getElem? (i := 1) rfl, List.mem_singleton.2 rfl⟩
theorem nodeH_c : inF (nodeH A N) A.c := ⟨_, List.mem_of_getElem? (i := 2) rfl, List.mem_singleton.2 rfl⟩
theorem nodeH_t : inF (nodeH A N) A.t := ⟨_, List.mem_of_getElem? (i := 3) rfl, List.mem_singleton.2 rfl⟩
theorem nodeH_x : inF (nodeH A N) A.x := ⟨_, List.mem_of_getElem? (i := 4) rfl, List.mem_singleton.2 rfl⟩
theorem nodeH_m : inF (nodeH A N) A.m := ⟨_, List.mem_of_getElem? (i := 5) rfl, List.mem_singleton.2 rfl⟩
theorem High.size {q : Nat} (hq : High (nodeH A N) q) (hN : Has w (nodeH A N)) : q ≤ w.heap.size := by
  have h1 := hq A.n nodeH_n
  have h2 := hN.lt _ (List.mem_of_getElem? (i := 0) rfl) A.n (List.mem_singleton.2 rfl)
  omega
theorem ninside_ok {E : Nat → Addr} {q m : Nat} (p : PktS) (hN : Has w (nodeH A N)) (hO : NOk m N) (hm : m + 1 ≤ 50000000) (hE : Errs w E q allErrs) (hq : High (nodeH A N) q) :
    CallC Tryz.prog 40 #[.pointer (some ⟨A.n, 0, none⟩), .agg (encPkt p).toArray] w fun v w' => v = .tuple #[.agg (encPkt (N.inside p).2.1).toArray, errV E (N.inside p).1] ∧ Turns w w' (nodeH A N) (nodeH A (N.inside p).2.2) := by
  have hqF : ∀ b, inF (nodeH A N) b → q ≤ b := hq
  have hqw := hq.size hN
  refine fn_intro tabOk Tryz.func40 (by kernel_rfl) rfl Tryz.ntmps40 (Nat.le_of_ble_eq_true rfl) ?_
  have hS := hN.start
  (conv => whnf)
  refine hS.new (fun bp w' hbp hS => ?_)
  (conv => whnf)
  refine hS.new (fun br w' hbr hS => ?_)
  replace hS : St w (inF (nodeH A N)) w' (nodeH A N ++ [blk bp 50 (encPkt p), blk br 50 (encPkt noPkt)]) := hS
  (conv => whnf)
  refine hS.laX 7 rfl rfl ?_
  (conv => whnf)
  refine (pcheck_ok p _ ((hE.ext hS.ext hqF).sub rfl)).mono ?_
  rintro v w2 ⟨rfl, hx⟩
  replace hS := hS.no hx
  by_cases hp : p.err = 0
  case neg =>
    obtain ⟨j, hj⟩ : ∃ j, p.err = j + 1 := ⟨p.err - 1, by omega⟩
    rw [show N.inside p = (p.err, noPkt, N) from if_pos hp, hj]
    repeat' ((conv => whnf); first | refine RetC.mk ?_ | refine NzC.mk (by decide) ?_ | refine RngC.mk (by omega) (by omega) ?_ | refine IdxC.mk (by omega) (by omega) ?_ | refine hS.st 8 rfl (Nat.le_of_ble_eq_true rfl) rfl (fun w' hS => ?_) | refine hS.laX 8 rfl rfl ?_ | refine brD (fun _ => ?_) (fun _ => ?_) | refine brND (fun _ => ?_) (fun _ => ?_) | refine brN (fun _ => ?_) (fun _ => ?_) | refine brI (fun _ => ?_) (fun _ => ?_))
    exact ⟨rfl, (hS.keep 7).turns⟩
  rw [hp]
  (conv => whnf)
  refine hS.ld 0 rfl rfl ?_
  (conv => whnf)
  refine (role_active (hS.blk 1 rfl)).mono ?_
  rintro v w3 ⟨rfl, rfl⟩
  cases ha : N.role.active
  · rw [show N.inside p = (9, noPkt, N) by unfold NodeS.inside; rw [if_neg (fun h => h hp), if_pos ha]]
    (conv => whnf)
    (refine drawS tabOk mixed [] (fun b => b = br) [0, 1, 2, 3] (by kernel_rfl) ?_; rintro w1 rfl; replace hS := hS.drew)
    have hK := hS.ref (fun b => b = br)
    (conv => whnf)
    refine hS.ldrF (hE.at_ 9 rfl) (Errs.out hE 9 rfl hqF) (hE.ne 9 rfl (Nat.le_trans hqw hbr)) ?_
    (conv => whnf)
    refine hS.stK hK 8 rfl (Nat.le_of_ble_eq_true rfl) rfl rfl (fun w' hK hS => KeepC.mk hK ?_)
    repeat' ((conv => whnf); first | refine RetC.mk ?_ | refine NzC.mk (by decide) ?_ | refine RngC.mk (by omega) (by omega) ?_ | refine IdxC.mk (by omega) (by omega) ?_ | refine hS.laX 8 rfl rfl ?_ | refine brD (fun _ => ?_) (fun _ => ?_) | refine brND (fun _ => ?_) (fun _ => ?_) | refine brN (fun _ => ?_) (fun _ => ?_) | refine brI (fun _ => ?_) (fun _ => ?_))
    exact ⟨rfl, (hS.keep 7).turns⟩
  (conv => whnf)
  refine hS.new (fun bf w' hbf hS => ?_)
  replace hS : St w (inF (nodeH A N)) w' (nodeH A N ++ [blk bp 50 (encPkt p), blk br 50 (encPkt noPkt), blk bf 133 (encFlow noFlow)]) := hS
  (conv => whnf)
  (refine drawS tabOk mixed [] No [0, 1, 2, 3, 4, 5, 6, 7, 8, 9, 10, 11, 12, 13, 14, 15] (by kernel_rfl) ?_; rintro w1 rfl; replace hS := hS.drew)
  repeat' ((conv => whnf); first | refine hS.laXF 7 rfl rfl id ?_ | refine hS.ldF 7 rfl rfl id ?_ | refine hS.ldF 0 rfl rfl id ?_)
  refine (tfind_ok _ _ _ _ _ (hS.blk 3 rfl) hO.tab.len).mono ?_
  rintro v w4 ⟨rfl, hx⟩
  replace hS := hS.no hx
  refine KeepC.mk hx ?_
  (conv => whnf)
  refine brD (fun hf => ?_) (fun hf => ?_)
  · rw [show atI (N.tab.find p.proto p.sa p.sp p.da p.dp) = N.tab.find p.proto p.sa p.sp p.da p.dp from if_neg (by omega)]
    rw [show N.inside p = (0, ⟨p.proto, 1, (flowAt N.tab (N.tab.find p.proto p.sa p.sp p.da p.dp)).port, p.da, p.dp, p.flags⟩, N.pass (N.tab.find p.proto p.sa p.sp p.da p.dp) p.flags true) by
      unfold NodeS.inside
      rw [if_neg (fun h => h hp), if_neg (by rw [ha]; decide), if_pos hf]]
    have herr := (flowErr_find hO.tab.len (fitF p.proto p.sa p.sp p.da p.dp) hf).1
    (conv => whnf)
    refine hS.laX 7 rfl rfl ?_
    (conv => whnf)
    refine (npass_ok _ p true hS.has.left hO (by omega) herr (hE.ext hS.ext hqF) hq).mono ?_
    rintro v w5 ⟨rfl, ht⟩
    replace hS := St.call hS ht
    (conv => whnf)
    refine hS.new (fun bx w' hbx hS => ?_)
    replace hS : St w (inF (nodeH A N)) w' (nodeH A (N.pass (N.tab.find p.proto p.sa p.sp p.da p.dp) p.flags true) ++ [blk bp 50 (encPkt p), blk br 50 (encPkt noPkt), blk bf 133 (encFlow noFlow), blk bx 133 (encFlow noFlow)]) := hS
    (conv => whnf)
    refine hS.st 10 rfl (Nat.le_of_ble_eq_true rfl) rfl (fun w' hS => ?_)
    (conv => whnf)
    refine hS.laX 10 rfl rfl ?_
    (conv => whnf)
    refine hS.st 9 rfl (Nat.le_of_ble_eq_true rfl) rfl (fun w' hS => ?_)
    (conv => whnf)
    refine hS.ld 9 rfl rfl ?_
    (conv => whnf)
    refine hS.st 7 rfl (Nat.le_of_ble_eq_true rfl) rfl (fun w' hS => ?_)
    (conv => whnf)
    refine hS.laX 7 rfl rfl ?_
    (conv => whnf)
    refine hS.st 8 rfl (Nat.le_of_ble_eq_true rfl) rfl (fun w' hS => ?_)
    (conv => whnf)
    refine hS.laX 8 rfl rfl ?_
    repeat' ((conv => whnf); first | refine RetC.mk ?_ | refine NzC.mk (by decide) ?_ | refine RngC.mk (by omega) (by omega) ?_ | refine IdxC.mk (by omega) (by omega) ?_ | refine brD (fun _ => ?_) (fun _ => ?_) | refine brND (fun _ => ?_) (fun _ => ?_) | refine brN (fun _ => ?_) (fun _ => ?_) | refine brI (fun _ => ?_) (fun _ => ?_))
    exact ⟨rfl, (hS.keep 7).turns⟩
  · have hI : N.inside p = if (N.begin p).1.2 ≠ 0 then ((N.begin p).1.2, noPkt, (N.begin p).2) else (0, ⟨p.proto, 1, (flowAt (N.begin p).2.tab (N.begin p).1.1).port, p.da, p.dp, p.flags⟩, (N.begin p).2) := by
      unfold NodeS.inside
      rw [if_neg (fun h => h hp), if_neg (by rw [ha]; decide), if_neg hf]
    rw [hI]
    (conv => whnf)
    refine hS.laX 7 rfl rfl ?_
    (conv => whnf)
    refine (nbegin_ok p hS.has.left hO (by omega) hp (hE.ext hS.ext hqF) hq).mono ?_
    rintro v w5 ⟨rfl, ht⟩
    replace hS := St.call hS ht
    have hO2 := hO.begin p
    have hin := begin_in hO p
    generalize N.begin p = r at hS hO2 hin ⊢
    obtain ⟨⟨k, kk⟩, N2⟩ := r
    cases kk with
    | succ j =>
      rw [if_pos (show ((k, j + 1), N2).1.2 ≠ 0 by simp)]
      repeat' ((conv => whnf); first | refine RetC.mk ?_ | refine NzC.mk (by decide) ?_ | refine RngC.mk (by omega) (by omega) ?_ | refine IdxC.mk (by omega) (by omega) ?_ | refine hS.st 8 rfl (Nat.le_of_ble_eq_true rfl) rfl (fun w' hS => ?_) | refine hS.laX 8 rfl rfl ?_ | refine brD (fun _ => ?_) (fun _ => ?_) | refine brND (fun _ => ?_) (fun _ => ?_) | refine brN (fun _ => ?_) (fun _ => ?_) | refine brI (fun _ => ?_) (fun _ => ?_))
      exact ⟨rfl, (hS.keep 7).turns⟩
    | zero =>
      rw [if_neg (show ¬ ((k, 0), N2).1.2 ≠ 0 by simp)]
      obtain ⟨h0, h1⟩ := hin rfl
      obtain ⟨c, hc, hcf⟩ := flowAt_in hO2 k h0 h1
      dsimp only at hS hc hcf h0 h1 ⊢
      rw [← hcf]
      (conv => whnf)
      refine hS.ld 0 rfl rfl ?_
      (conv => whnf)
      refine (tget_ok k (hS.blk 3 rfl) h0 h1 hc).mono ?_
      rintro v w6 ⟨rfl, hx⟩
      replace hS := hS.no hx
      (conv => whnf)
      refine hS.new (fun bx w' hbx hS => ?_)
      replace hS : St w (inF (nodeH A N)) w' (nodeH A N2 ++ [blk bp 50 (encPkt p), blk br 50 (encPkt noPkt), blk bf 133 (encFlow noFlow), blk bx 135 (encCell ⟨0, 0, noFlow⟩)]) := hS
      (conv => whnf)
      refine hS.st 10 rfl (Nat.le_of_ble_eq_true rfl) rfl (fun w' hS => ?_)
      (conv => whnf)
      refine hS.laX 10 rfl rfl ?_
      (conv => whnf)
      refine hS.st 9 rfl (Nat.le_of_ble_eq_true rfl) rfl (fun w' hS => ?_)
      (conv => whnf)
      refine hS.ld 9 rfl rfl ?_
      (conv => whnf)
      refine hS.st 7 rfl (Nat.le_of_ble_eq_true rfl) rfl (fun w' hS => ?_)
      (conv => whnf)
      refine hS.laX 7 rfl rfl ?_
      (conv => whnf)
      refine hS.st 8 rfl (Nat.le_of_ble_eq_true rfl) rfl (fun w' hS => ?_)
      (conv => whnf)
      refine hS.laX 8 rfl rfl ?_
      repeat' ((conv => whnf); first | refine RetC.mk ?_ | refine NzC.mk (by decide) ?_ | refine RngC.mk (by omega) (by omega) ?_ | refine IdxC.mk (by omega) (by omega) ?_ | refine brD (fun _ => ?_) (fun _ => ?_) | refine brND (fun _ => ?_) (fun _ => ?_) | refine brN (fun _ => ?_) (fun _ => ?_) | refine brI (fun _ => ?_) (fun _ => ?_))
      exact ⟨rfl, (hS.keep 7).turns⟩
theorem noutside_ok {E : Nat → Addr} {q m : Nat} (p : PktS) (hN : Has w (nodeH A N)) (hO : NOk m N) (hm : m + 1 ≤ 50000000) (hE : Errs w E q allErrs) (hq : High (nodeH A N) q) :
    CallC Tryz.prog 42 #[.pointer (some ⟨A.n, 0, none⟩), .agg (encPkt p).toArray] w fun v w' => v = .tuple #[.agg (encPkt (N.outside p).2.1).toArray, errV E (N.outside p).1] ∧ Turns w w' (nodeH A N) (nodeH A (N.outside p).2.2) := by
  have hqF : ∀ b, inF (nodeH A N) b → q ≤ b := hq
  have hqw := hq.size hN
  refine fn_intro tabOk Tryz.func42 (by kernel_rfl) rfl Tryz.ntmps42 (Nat.le_of_ble_eq_true rfl) ?_
  have hS := hN.start
  (conv => whnf)
  refine hS.new (fun bp w' hbp hS => ?_)
  (conv => whnf)
  refine hS.new (fun br w' hbr hS => ?_)
  replace hS : St w (inF (nodeH A N)) w' (nodeH A N ++ [blk bp 50 (encPkt p), blk br 50 (encPkt noPkt)]) := hS
  (conv => whnf)
  refine hS.laX 7 rfl rfl ?_
  (conv => whnf)
  refine (pcheck_ok p _ ((hE.ext hS.ext hqF).sub rfl)).mono ?_
  rintro v w2 ⟨rfl, hx⟩
  replace hS := hS.no hx
  by_cases hp : p.err = 0
  case neg =>
    obtain ⟨j, hj⟩ : ∃ j, p.err = j + 1 := ⟨p.err - 1, by omega⟩
    rw [show N.outside p = (p.err, noPkt, N) from if_pos hp, hj]
    repeat' ((conv => whnf); first | refine RetC.mk ?_ | refine NzC.mk (by decide) ?_ | refine RngC.mk (by omega) (by omega) ?_ | refine IdxC.mk (by omega) (by omega) ?_ | refine hS.st 8 rfl (Nat.le_of_ble_eq_true rfl) rfl (fun w' hS => ?_) | refine hS.laX 8 rfl rfl ?_ | refine brD (fun _ => ?_) (fun _ => ?_) | refine brND (fun _ => ?_) (fun _ => ?_) | refine brN (fun _ => ?_) (fun _ => ?_) | refine brI (fun _ => ?_) (fun _ => ?_))
    exact ⟨rfl, (hS.keep 7).turns⟩
  rw [hp]
  (conv => whnf)
  refine hS.ld 0 rfl rfl ?_
  (conv => whnf)
  refine (role_active (hS.blk 1 rfl)).mono ?_
  rintro v w3 ⟨rfl, rfl⟩
  cases ha : N.role.active
  · rw [show N.outside p = (9, noPkt, N) by unfold NodeS.outside; rw [if_neg (fun h => h hp), if_pos ha]]
    (conv => whnf)
    (refine drawS tabOk mixed [] (fun b => b = br) [0, 1, 2, 3] (by kernel_rfl) ?_; rintro w1 rfl; replace hS := hS.drew)
    have hK := hS.ref (fun b => b = br)
    (conv => whnf)
    refine hS.ldrF (hE.at_ 9 rfl) (Errs.out hE 9 rfl hqF) (hE.ne 9 rfl (Nat.le_trans hqw hbr)) ?_
    (conv => whnf)
    refine hS.stK hK 8 rfl (Nat.le_of_ble_eq_true rfl) rfl rfl (fun w' hK hS => KeepC.mk hK ?_)
    repeat' ((conv => whnf); first | refine RetC.mk ?_ | refine NzC.mk (by decide) ?_ | refine RngC.mk (by omega) (by omega) ?_ | refine IdxC.mk (by omega) (by omega) ?_ | refine hS.laX 8 rfl rfl ?_ | refine brD (fun _ => ?_) (fun _ => ?_) | refine brND (fun _ => ?_) (fun _ => ?_) | refine brN (fun _ => ?_) (fun _ => ?_) | refine brI (fun _ => ?_) (fun _ => ?_))
    exact ⟨rfl, (hS.keep 7).turns⟩
  (conv => whnf)
  refine hS.ld 7 rfl rfl ?_
  (conv => whnf)
  refine brND (fun hd => ?_) (fun hd => ?_)
  · rw [show N.outside p = (3, noPkt, N) by unfold NodeS.outside; rw [if_neg (fun h => h hp), if_neg (by rw [ha]; decide), if_pos hd]]
    (conv => whnf)
    (refine drawS tabOk mixed [] (fun b => b = br) [0, 1, 2, 3] (by kernel_rfl) ?_; rintro w1 rfl; replace hS := hS.drew)
    have hK := hS.ref (fun b => b = br)
    (conv => whnf)
    refine hS.ldrF (hE.at_ 3 rfl) (Errs.out hE 3 rfl hqF) (hE.ne 3 rfl (Nat.le_trans hqw hbr)) ?_
    (conv => whnf)
    refine hS.stK hK 8 rfl (Nat.le_of_ble_eq_true rfl) rfl rfl (fun w' hK hS => KeepC.mk hK ?_)
    repeat' ((conv => whnf); first | refine RetC.mk ?_ | refine NzC.mk (by decide) ?_ | refine RngC.mk (by omega) (by omega) ?_ | refine IdxC.mk (by omega) (by omega) ?_ | refine hS.laX 8 rfl rfl ?_ | refine brD (fun _ => ?_) (fun _ => ?_) | refine brND (fun _ => ?_) (fun _ => ?_) | refine brN (fun _ => ?_) (fun _ => ?_) | refine brI (fun _ => ?_) (fun _ => ?_))
    exact ⟨rfl, (hS.keep 7).turns⟩
  (conv => whnf)
  (refine drawS tabOk mixed [] No [0, 1, 2, 3, 4, 5, 6, 7, 8, 9, 10, 11, 12, 13, 14, 15, 16] (by kernel_rfl) ?_; rintro w1 rfl; replace hS := hS.drew)
  repeat' ((conv => whnf); first | refine hS.laXF 7 rfl rfl id ?_ | refine hS.ldF 7 rfl rfl id ?_ | refine hS.ldF 0 rfl rfl id ?_)
  refine (tback_ok _ _ _ _ (hS.blk 3 rfl) hO.tab.len).mono ?_
  rintro v w4 ⟨rfl, hx⟩
  replace hS := hS.no hx
  refine KeepC.mk hx ?_
  (conv => whnf)
  refine brN (fun hf => ?_) (fun hf => ?_)
  · replace hf := of_decide_eq_false hf
    rw [show N.outside p = (4, noPkt, N) by unfold NodeS.outside; rw [if_neg (fun h => h hp), if_neg (by rw [ha]; decide), if_neg (fun h => h hd), if_pos (by omega)]]
    (conv => whnf)
    (refine drawS tabOk mixed [] (fun b => b = br) [0, 1, 2, 3] (by kernel_rfl) ?_; rintro w1 rfl; replace hS := hS.drew)
    have hK := hS.ref (fun b => b = br)
    (conv => whnf)
    refine hS.ldrF (hE.at_ 4 rfl) (Errs.out hE 4 rfl hqF) (hE.ne 4 rfl (Nat.le_trans hqw hbr)) ?_
    (conv => whnf)
    refine hS.stK hK 8 rfl (Nat.le_of_ble_eq_true rfl) rfl rfl (fun w' hK hS => KeepC.mk hK ?_)
    repeat' ((conv => whnf); first | refine RetC.mk ?_ | refine NzC.mk (by decide) ?_ | refine RngC.mk (by omega) (by omega) ?_ | refine IdxC.mk (by omega) (by omega) ?_ | refine hS.laX 8 rfl rfl ?_ | refine brD (fun _ => ?_) (fun _ => ?_) | refine brND (fun _ => ?_) (fun _ => ?_) | refine brN (fun _ => ?_) (fun _ => ?_) | refine brI (fun _ => ?_) (fun _ => ?_))
    exact ⟨rfl, (hS.keep 7).turns⟩
  · replace hf := of_decide_eq_true hf
    rw [show atI (N.tab.back p.proto p.dp p.sa p.sp) = N.tab.back p.proto p.dp p.sa p.sp from if_neg (by omega)]
    rw [show N.outside p = (0, ⟨p.proto, p.sa, p.sp, (flowAt N.tab (N.tab.back p.proto p.dp p.sa p.sp)).ia, (flowAt N.tab (N.tab.back p.proto p.dp p.sa p.sp)).ip, p.flags⟩, N.pass (N.tab.back p.proto p.dp p.sa p.sp) p.flags false) by
      unfold NodeS.outside
      rw [if_neg (fun h => h hp), if_neg (by rw [ha]; decide), if_neg (fun h => h hd), if_neg (by omega)]]
    have herr := (flowErr_find hO.tab.len (fitB p.proto p.dp p.sa p.sp) hf).1
    (conv => whnf)
    refine hS.laX 7 rfl rfl ?_
    (conv => whnf)
    refine (npass_ok _ p false hS.has.left hO (by omega) herr (hE.ext hS.ext hqF) hq).mono ?_
    rintro v w5 ⟨rfl, ht⟩
    replace hS := St.call hS ht
    (conv => whnf)
    refine hS.new (fun bx w' hbx hS => ?_)
    replace hS : St w (inF (nodeH A N)) w' (nodeH A (N.pass (N.tab.back p.proto p.dp p.sa p.sp) p.flags false) ++ [blk bp 50 (encPkt p), blk br 50 (encPkt noPkt), blk bx 133 (encFlow noFlow)]) := hS
    (conv => whnf)
    refine hS.st 9 rfl (Nat.le_of_ble_eq_true rfl) rfl (fun w' hS => ?_)
    (conv => whnf)
    refine hS.laX 9 rfl rfl ?_
    (conv => whnf)
    refine hS.st 7 rfl (Nat.le_of_ble_eq_true rfl) rfl (fun w' hS => ?_)
    (conv => whnf)
    refine hS.laX 7 rfl rfl ?_
    (conv => whnf)
    refine hS.st 8 rfl (Nat.le_of_ble_eq_true rfl) rfl (fun w' hS => ?_)
    (conv => whnf)
    refine hS.laX 8 rfl rfl ?_
    repeat' ((conv => whnf); first | refine RetC.mk ?_ | refine NzC.mk (by decide) ?_ | refine RngC.mk (by omega) (by omega) ?_ | refine IdxC.mk (by omega) (by omega) ?_ | refine brD (fun _ => ?_) (fun _ => ?_) | refine brND (fun _ => ?_) (fun _ => ?_) | refine brN (fun _ => ?_) (fun _ => ?_) | refine brI (fun _ => ?_) (fun _ => ?_))
    exact ⟨rfl, (hS.keep 7).turns⟩
end
end Go.Proofs.YtakdekkieobbaaaGreatDoor

/-
  Package node, walked: a claim, a tick.
-/
namespace Go.Proofs.YtakdekkieobbaaaGreatDoor
open Go Ev

theorem Ev.St.upd2 {w0 w w' : World} {S T : Nat → Prop} {H : List Ent} {e1 e2 d1 d2 : Ent} (h : St w0 S w (e1 :: e2 :: H)) (k : Ext T w w') (hT : ∀ b, T b → b ∈ e1.foot ∨ b ∈ e2.foot) (l1 : d1.Local) (h1 : d1.holds w') (f1 : d1.foot = e1.foot) (l2 : d2.Local) (h2 : d2.holds w') (f2 : d2.foot = e2.foot) : St w0 S w' (d1 :: d2 :: H) := by
  have hap := List.pairwise_cons.1 h.apart
  have hap2 := List.pairwise_cons.1 hap.2
  have hme1 : e1 ∈ e1 :: e2 :: H := List.mem_cons_self
  have hme2 : e2 ∈ e1 :: e2 :: H := List.mem_cons_of_mem _ List.mem_cons_self
  have hmH : ∀ f ∈ H, f ∈ e1 :: e2 :: H := fun f hf => List.mem_cons_of_mem _ (List.mem_cons_of_mem _ hf)
  have hnT : ∀ f ∈ H, ∀ b ∈ f.foot, ¬ T b := fun f hf b hb ht => (hT b ht).elim (fun h1 => hap.1 f (List.mem_cons_of_mem _ hf) b h1 hb) fun h2 => hap2.1 f hf b h2 hb
  refine ⟨h.ext.then k fun b hb => (hT b hb).elim (fun hb => (h.may e1 hme1 b hb).1) fun hb => (h.may e2 hme2 b hb).1, ?_, ?_, ?_, ?_⟩
  · intro e he
    rcases List.mem_cons.1 he with rfl | he
    · exact h1
    rcases List.mem_cons.1 he with rfl | he
    · exact h2
    · exact h.loc e (hmH e he) w w' (fun b hb => k.block b (h.may e (hmH e he) b hb).2 (hnT e he b hb)) (h.each e (hmH e he))
  · intro e he
    rcases List.mem_cons.1 he with rfl | he
    · exact l1
    rcases List.mem_cons.1 he with rfl | he
    · exact l2
    · exact h.loc e (hmH e he)
  · intro e he b hb
    have key : ∃ f ∈ e1 :: e2 :: H, b ∈ f.foot := by
      rcases List.mem_cons.1 he with rfl | he
      · exact ⟨e1, hme1, f1 ▸ hb⟩
      rcases List.mem_cons.1 he with rfl | he
      · exact ⟨e2, hme2, f2 ▸ hb⟩
      · exact ⟨e, hmH e he, hb⟩
    obtain ⟨f, hf, hb⟩ := key
    exact ⟨(h.may f hf b hb).1, Nat.lt_of_lt_of_le (h.may f hf b hb).2 k.size⟩
  · refine .cons (fun f hf b hb => ?_) (.cons (fun f hf b hb => ?_) hap2.2)
    · rw [f1] at hb
      rcases List.mem_cons.1 hf with rfl | hf
      · rw [f2]
        exact hap.1 e2 List.mem_cons_self b hb
      · exact hap.1 f (List.mem_cons_of_mem _ hf) b hb
    · rw [f2] at hb
      exact hap2.1 f hf b hb

/-- A drawn region, by what it keeps. -/
theorem drawI {P : Program} {τ : Tab} {N : Nat} {σ : Slots} {w : World} (hτ : TabOk P τ) (hm : P.follows .mixedOrders = true) {ops : Array Oper} {Q : Slots → World → Prop} (late : List Nat) (S : World → World → Prop) (order : List Nat)
    (hok : (Region.noSelect ops && Nat.beq order.length ops.size && orderOk ops late order (Array.replicate ops.size false)) = true)
    (h : ∀ w1, w1 = { w with drawn := w.drawn + 1 } → S w1 w1 ∧ evDrawR P τ N ops late (S w1) order Q σ w1) : DrawC P τ N ops Q σ w :=
  drawR hτ hm late S order hok (h _ rfl).1 (by have := (h _ rfl).2; rwa [evDrawR_eq] at this)
theorem LdF.imp {S S' : World → Prop} {b o : Nat} {k : Value → Prop} (hi : ∀ w, S' w → S w) (h : LdF S b o k) : LdF S' b o k := by
  obtain ⟨v, hv, hk⟩ := h
  exact ⟨v, fun w hw => hv w (hi w hw), hk⟩
theorem LdG.imp {S S' : World → Prop} {b o n : Nat} {k : Value → Prop} (hi : ∀ w, S' w → S w) (h : LdG S b o n k) : LdG S' b o n k := by
  obtain ⟨l, h1, hv, hk⟩ := h
  exact ⟨l, h1, fun w hw => hv w (hi w hw), hk⟩

def nodeB (A : NodeA) (N : NodeS) (B : BytS) : List Ent := nodeH A N ++ [blk A.b 72 (encBy B)]
section
variable {w : World} {A : NodeA} {N : NodeS} {B : BytS}
theorem Fresh.foot {w w' : World} {v : Value} {α : Type} {e : TypeId} {sz : Nat} {enc : α → List Value} {xs : List α} (h : Fresh w w' v) : ∀ g ∈ (ownL e sz enc v xs).foot, w.heap.size ≤ g ∧ g < w'.heap.size := fun g hg => h g (by simpa [ownL, own] using hg)
theorem nodeB_H {b : Nat} (h : inF (nodeH A N) b) : inF (nodeB A N B) b := inF_app.2 (.inl h)
theorem nodeB_b : inF (nodeB A N B) A.b := ⟨_, List.mem_of_getElem? (i := 7) rfl, List.mem_singleton.2 rfl⟩
theorem nclaim_ok {E : Nat → Addr} {q m : Nat} (hN : Has w (nodeB A N B)) (hO : NOk m N) (hB : BOk B) (ha : N.role.active = false) (hm : m + 33 ≤ 50000000) (hE : Errs w E q allErrs) (hq : High (nodeB A N B) q) :
    CallC Tryz.prog 58 #[.pointer (some ⟨A.n, 0, none⟩)] w fun v w' => v = .tuple #[.bool (N.claim B).1.1, errV E (N.claim B).1.2] ∧ Turns w w' (nodeB A N B) (nodeB A (N.claim B).2.1 (N.claim B).2.2) := by
  have hqF : ∀ b, inF (nodeB A N B) b → q ≤ b := hq
  refine fn_intro tabOk Tryz.func58 (by kernel_rfl) rfl Tryz.ntmps58 (Nat.le_of_ble_eq_true rfl) ?_
  have hS := hN.start
  (conv => whnf)
  refine hS.ld 0 rfl rfl ?_
  (conv => whnf)
  refine (role_next (hS.blk 1 rfl) hO.role (hE.sub rfl)).mono ?_
  rintro v w2 ⟨rfl, hx⟩
  replace hS := hS.no hx
  by_cases hnx : N.role.next.2 = 0
  case neg =>
    obtain ⟨j, hj⟩ : ∃ j, N.role.next.2 = j + 1 := ⟨N.role.next.2 - 1, by omega⟩
    rw [show N.claim B = ((false, 0), N, B) from if_pos hnx, hj]
    repeat' ((conv => whnf); first | refine RetC.mk ?_ | refine NzC.mk (by decide) ?_ | refine RngC.mk (by omega) (by omega) ?_ | refine IdxC.mk (by omega) (by omega) ?_ | refine brD (fun _ => ?_) (fun _ => ?_) | refine brND (fun _ => ?_) (fun _ => ?_) | refine brN (fun _ => ?_) (fun _ => ?_) | refine brI (fun _ => ?_) (fun _ => ?_))
    exact ⟨rfl, hS.turns⟩
  have hcl := RoleS.claim_next ha hnx
  have hpos := RoleS.next_pos hO.role hnx
  rw [hnx]
  have hn1 := hS.ne 0 2 rfl rfl (by decide)
  have hn2 := hS.ne 0 7 rfl rfl (by decide)
  (conv => whnf)
  (refine drawS tabOk mixed [] (fun b => b = A.b ∨ b = A.c) [0, 1, 2, 3, 4, 5, 6, 7, 8, 9, 10, 11] (by kernel_rfl) ?_; rintro w1 rfl; replace hS := hS.drew)
  have hK := hS.ref (fun b => b = A.b ∨ b = A.c)
  repeat' ((conv => whnf); first | refine hS.ldF 0 rfl rfl (fun h => h.elim hn2 hn1) ?_)
  refine (clife_ok (hS.blk 2 rfl)).mono ?_
  rintro v w3 ⟨rfl, hx⟩
  replace hS := hS.no hx
  replace hK := hK.trans hx.of_no
  refine KeepC.mk hK ?_
  (conv => whnf)
  refine (cput_ok N.role.next.1 N.cell.li (hS.blk 2 rfl) (hS.blk 7 rfl) hB hO.num ((hE.ext hS.ext hqF).sub rfl) (hqF A.b nodeB_b) (hqF A.c (nodeB_H nodeH_c))).mono ?_
  rintro v w4 ⟨rfl, hx, hB1, hC1⟩
  have hs0 := hS.sel [7, 2, 0, 1, 3, 4, 5, 6] (by decide)
  have hs1 := (Ev.St.upd2 hs0 hx (by simp [blk]) (blk_local _ _ _) hB1 rfl (blk_local _ _ _) hC1 rfl).sel [2, 3, 1, 4, 5, 6, 7, 0] (by decide)
  replace hK := hK.trans hx
  refine KeepC.mk hK ?_
  clear hS hs0 hB1 hC1 hx
  by_cases hp : (N.cell.put B N.role.next.1 N.cell.li).1 = 0
  case neg =>
    obtain ⟨j, hj⟩ : ∃ j, (N.cell.put B N.role.next.1 N.cell.li).1 = j + 1 := ⟨(N.cell.put B N.role.next.1 N.cell.li).1 - 1, by omega⟩
    rw [show N.claim B = ((false, (N.cell.put B N.role.next.1 N.cell.li).1), { N with cell := (N.cell.put B N.role.next.1 N.cell.li).2.2 }, (N.cell.put B N.role.next.1 N.cell.li).2.1) by
      unfold NodeS.claim
      rw [if_neg (fun h => h hnx), if_pos hp], hj]
    repeat' ((conv => whnf); first | refine RetC.mk ?_ | refine NzC.mk (by decide) ?_ | refine RngC.mk (by omega) (by omega) ?_ | refine IdxC.mk (by omega) (by omega) ?_ | refine brD (fun _ => ?_) (fun _ => ?_) | refine brND (fun _ => ?_) (fun _ => ?_) | refine brN (fun _ => ?_) (fun _ => ?_) | refine brI (fun _ => ?_) (fun _ => ?_))
    exact ⟨rfl, St.turns hs1⟩
  rw [show N.claim B = ((true, 0), { N with cell := (N.cell.put B N.role.next.1 N.cell.li).2.2, role := (N.role.claim N.role.next.1).2, tab := putAll N.now N.tab (flowsOf N.mir.cells) }, (N.cell.put B N.role.next.1 N.cell.li).2.1) by
    unfold NodeS.claim
    rw [if_neg (fun h => h hnx), if_neg (fun h => h hp)], hp]
  generalize (N.cell.put B N.role.next.1 N.cell.li).2 = BC at hs1 ⊢
  obtain ⟨B2, C2⟩ := BC
  have hS : St w (inF (nodeB A N B)) w4 (nodeB A { N with cell := C2 } B2) := hs1
  clear hs1
  (conv => whnf)
  refine hS.ld 0 rfl rfl ?_
  (conv => whnf)
  refine (role_claim N.role.next.1 (hS.blk 1 rfl) hO.role ((hE.ext hS.ext hqF).sub rfl) (hqF A.r (nodeB_H nodeH_r))).mono ?_
  rintro v w' ⟨rfl, hx, hB⟩
  replace hS := hS.upd 1 rfl hx (fun c hc => by subst hc; exact List.mem_singleton.2 rfl) (blk_local _ _ _) hB (fun c hc => .inl hc)
  clear hx hB
  replace hS : St w (inF (nodeB A N B)) w' (nodeB A { N with cell := C2, role := (N.role.claim N.role.next.1).2 } B2) := hS
  rw [show (N.role.claim N.role.next.1).1 = 0 by rw [hcl]]
  (conv => whnf)
  refine hS.ld 0 rfl rfl ?_
  (conv => whnf)
  refine (flows_ok (hS.blk 5 rfl) hO.mir).mono ?_
  rintro v w' ⟨a, c, rfl, hx, ho, hf⟩
  replace hS := hS.made hx ownL_local ho (fun g hg => hf g (by simpa [ownL, own] using hg))
  clear hx ho hf
  have hlen := flowsOf_len N.mir.cells
  rw [hO.mir] at hlen
  generalize flowsOf N.mir.cells = l at hS hlen ⊢
  generalize (N.role.claim N.role.next.1).2 = r2 at hS ⊢
  have hn0 := hO.n0
  have hn9 := hO.n1
  (conv => whnf)
  refine loopR tabOk (fun σ w' q => ∃ k : Nat, σ = [(49, .int .i64 k), (48, .int .i64 l.length), (47, .slice a l.length c), (0, .pointer (some ⟨A.n, 0, none⟩))] ∧ q = l.length - k ∧ k ≤ l.length ∧ St w (inF (nodeB A N B)) w' (nodeB A { N with cell := C2, role := r2, tab := putAll N.now N.tab (l.take k) } B2 ++ [ownL 133 8 encFlow (.slice a l.length c) l]))
    (σ' := [(49, .int .i64 ((0 : Nat) : Int)), (48, .int .i64 l.length), (47, .slice a l.length c), (0, .pointer (some ⟨A.n, 0, none⟩))]) (n := l.length) ⟨rfl, rfl, rfl, rfl, trivial⟩ ⟨0, rfl, rfl, Nat.zero_le _, hS⟩ ?_
  clear hS
  rintro _ w1 q' ⟨k, rfl, rfl, hk, hS⟩
  (conv => whnf)
  refine brD (fun h3 => ?_) (fun h3 => ?_)
  · obtain ⟨b0, o0, x, hxk, _, rfl, hb0, hc⟩ := (ownL_slc (G := fun _ => True) codFlow (hS.get 8 rfl) (fun _ _ => trivial)).at (k := k) (by omega)
    have hstep := putAll_step N.now N.tab hxk
    have hTk := putAll_ok N.now (l.take k) hO.tab
    have hlk : (l.take k).length ≤ 32 := by rw [List.length_take]; omega
    generalize putAll N.now N.tab (l.take k) = T at hS hstep hTk
    (conv => whnf)
    refine IdxC.mk (by omega) (by omega) ?_
    (conv => whnf)
    refine ⟨encFlow x, rfl, hc, ?_⟩
    (conv => whnf)
    refine hS.new (fun bf w' hbf hS => ?_)
    (conv => whnf)
    refine hS.st 9 rfl (Nat.le_of_ble_eq_true rfl) rfl (fun w' hS => ?_)
    replace hS : St w (inF (nodeB A N B)) w' (nodeB A { N with cell := C2, role := r2, tab := T } B2 ++ [ownL 133 8 encFlow (.slice (some ⟨b0, o0, none⟩) l.length c) l, blk bf 133 (encFlow x)]) := hS
    have hf1 := hS.ne 0 9 rfl rfl (by decide)
    have hf3 := hS.ne 9 3 rfl rfl (by decide)
    have hf4 := hS.ne 0 3 rfl rfl (by decide)
    have htb := timeS_bound x.proto x.state
    (conv => whnf)
    refine drawI tabOk mixed [] (fun w1 w' => Ext (· = bf) w1 w' ∧ ∃ y, Blk w' bf 133 (encFlow { x with til := y })) [0, 1, 2, 3, 4, 5, 6, 7, 8, 9, 10, 11] (by kernel_rfl) ?_
    rintro w1 rfl
    replace hS := hS.drew
    refine ⟨⟨Ext.refl _ _, x.til, hS.blk 9 rfl⟩, ?_⟩
    have hK := hS.ref (· = bf)
    (conv => whnf)
    refine LdF.imp (fun _ h => h.1) (hS.ldF 0 rfl rfl hf1 ?_)
    (conv => whnf)
    refine ⟨.int .i64 x.proto, fun w' h => by obtain ⟨_, y, h⟩ := h; rw [h.cell]; rfl, ?_⟩
    (conv => whnf)
    refine ⟨.int .i64 x.state, fun w' h => by obtain ⟨_, y, h⟩ := h; rw [h.cell]; rfl, ?_⟩
    (conv => whnf)
    refine (time_ok _ _ _).mono ?_
    rintro v w' ⟨rfl, hx⟩
    replace hS := hS.no hx
    replace hK := hK.trans hx.of_no
    refine KeepC.mk ⟨hK, x.til, hS.blk 9 rfl⟩ ?_
    (conv => whnf)
    refine RngC.mk (by dsimp only; omega) (by dsimp only; omega) ?_
    (conv => whnf)
    refine hS.stK hK 9 rfl (Nat.le_of_ble_eq_true rfl) rfl rfl (fun w' hK hS => KeepC.mk ⟨hK, N.now + timeS x.proto x.state, hS.blk 9 rfl⟩ ?_)
    clear hK hx
    (conv => whnf)
    (refine drawS tabOk mixed [] (fun b => b = A.t) [0, 1, 2, 3, 4, 5, 6, 7, 8] (by kernel_rfl) ?_; rintro w1 rfl; replace hS := hS.drew)
    repeat' ((conv => whnf); first | refine hS.laXF 9 rfl rfl hf3 ?_ | refine hS.ldF 0 rfl rfl hf4 ?_)
    refine (tput_ok { x with til := N.now + timeS x.proto x.state } (hS.blk 3 rfl) hTk.len (hTk.verOk (by omega)) ((hE.ext hS.ext hqF).sub rfl) (hqF A.t (nodeB_H nodeH_t))).mono ?_
    rintro v w' ⟨rfl, hx, hB⟩
    refine KeepC.mk hx ?_
    replace hS := hS.upd 3 rfl hx (fun c hc => by subst hc; exact List.mem_singleton.2 rfl) (blk_local _ _ _) hB (fun c hc => .inl hc)
    rw [← hstep] at hS
    (conv => whnf)
    refine RngC.mk (by omega) (by omega) ?_
    (conv => whnf)
    refine LoopE.mk ⟨_, [(49, .int .i64 ((k + 1 : Nat) : Int)), (48, _), (47, _), (0, _)], ?_, ⟨rfl, rfl, rfl, rfl, trivial⟩, ⟨k + 1, rfl, rfl, by omega, hS.keep 9⟩⟩
    omega
  · obtain rfl : k = l.length := by omega
    rw [List.take_length] at hS
    repeat' ((conv => whnf); first | refine RetC.mk ?_ | refine NzC.mk (by decide) ?_ | refine RngC.mk (by omega) (by omega) ?_ | refine IdxC.mk (by omega) (by omega) ?_ | refine brD (fun _ => ?_) (fun _ => ?_) | refine brND (fun _ => ?_) (fun _ => ?_) | refine brN (fun _ => ?_) (fun _ => ?_) | refine brI (fun _ => ?_) (fun _ => ?_))
    exact ⟨rfl, St.turns (hS.keep 8)⟩
end

/-! ### Notes -/
structure NoteV where
  fro : Int
  life : Int
  epoch : Int
  claim : Bool
  a : Option Addr
  n : Nat
  c : Nat
def encNV (x : NoteV) : List Value := [.int .i64 x.fro, .int .i64 x.life, .int .i64 x.epoch, .bool x.claim, .slice x.a x.n x.c]
theorem codNote : Codec 5 encNV := ⟨fun _ => rfl, fun _ => rfl, by decide⟩
def noNV : NoteV := ⟨0, 0, 0, false, none, 0, 0⟩
def noteV (x : Option Addr) (y : Nat) (n : NoteS) : NoteV := ⟨n.fro, n.life, n.epoch, n.claim, if n.claim = true then none else x, n.cells.length, if n.claim = true then 0 else y⟩
def cellsOfN (l : List NoteS) : List CellS := l.flatMap (·.cells)
def noteH (a : Option Addr) (c : Nat) (x : Option Addr) (y : Nat) (l : List NoteS) : List Ent := [ownL 113 5 encNV (.slice a (l.map (noteV x y)).length c) (l.map (noteV x y)), ownL 135 10 encCell (.slice x (cellsOfN l).length y) (cellsOfN l)]
theorem Ev.St.addNil {α : Type} {w0 w : World} {S : Nat → Prop} {H : List Ent} (h : St w0 S w H) (e : TypeId) (sz : Nat) (enc : α → List Value) : St w0 S w (H ++ [ownL e sz enc (.slice none 0 0) []]) :=
  h.add ownL_local (own_nil _ _ _) (by simp [ownL, own, Value.ownBlock]) (by simp [ownL, own, Value.ownBlock])
theorem Ev.St.high {q : Nat} {w0 w : World} {S : Nat → Prop} {H : List Ent} (h : St w0 S w H) (h1 : ∀ b, S b → q ≤ b) (h2 : q ≤ w0.heap.size) : High H q := fun b ⟨e, he, hb⟩ => (h.may e he b hb).1.elim (h1 b) (fun h => Nat.le_trans h2 h)
theorem Ev.St.turned {w0 w w' : World} {S : Nat → Prop} {H H' : List Ent} (h : St w0 S w H) (k : Turns w w' H H') : St w0 S w' H' := by
  have := St.call (B := []) (by simpa using h) k
  simpa using this
theorem notes_ff {N : NodeS} (h : N.beat = false) : N.notes false = ([], N) := by
  unfold NodeS.notes
  rw [h]
  rfl
theorem notes_tf {N : NodeS} (h : N.beat = false) : N.notes true = ([⟨N.id, N.cell.li, N.role.epoch, true, []⟩], N) := by
  unfold NodeS.notes
  rw [h]
  rfl
theorem notes_t {N : NodeS} {cl : Bool} (h : N.beat = true) : N.notes cl = ([⟨N.id, N.cell.li, N.role.epoch, true, []⟩, ⟨N.id, N.cell.li, N.role.epoch, false, outC N.tab.cells (N.tel.picks N.tab.cells)⟩], { N with tel := N.tel.next N.tab.cells }) := by
  unfold NodeS.notes
  rw [h, if_pos (.inr rfl), if_pos rfl, if_pos rfl]
  rfl
section
variable {w : World} {A : NodeA} {N : NodeS} {B : BytS}
theorem ntick_ok {E : Nat → Addr} {q m : Nat} (hN : Has w (nodeB A N B)) (hO : NOk m N) (hBB : BOk B) (hm : m + 34 ≤ 50000000) (hE : Errs w E q allErrs) (hq : High (nodeB A N B) q) :
    CallC Tryz.prog 19 #[.pointer (some ⟨A.n, 0, none⟩)] w fun v w' => ∃ a c x y, v = .tuple #[.slice a ((N.tick B).2.1.map (noteV x y)).length c, errV E (N.tick B).1] ∧ Turns w w' (nodeB A N B) (nodeB A (N.tick B).2.2.1 (N.tick B).2.2.2 ++ noteH a c x y (N.tick B).2.1) := by
  have hqF : ∀ b, inF (nodeB A N B) b → q ≤ b := hq
  have hqw : q ≤ w.heap.size := by
    have h1 := hq A.n (nodeB_H nodeH_n)
    have h2 := hN.lt _ (List.mem_of_getElem? (i := 0) rfl) A.n (List.mem_singleton.2 rfl)
    omega
  have hn0 := hO.n0
  refine fn_intro tabOk Tryz.func19 (by kernel_rfl) rfl Tryz.ntmps19 (Nat.le_of_ble_eq_true rfl) ?_
  have hS := hN.start
  (conv => whnf)
  refine hS.ld 0 rfl rfl ?_
  (conv => whnf)
  refine brD (fun hn => ?_) (fun hn => ?_)
  · rw [show N.tick B = (2, [], N, B) from if_pos hn]
    (conv => whnf)
    (refine drawS tabOk mixed [] No [0, 1, 2] (by kernel_rfl) ?_; rintro w1 rfl; replace hS := hS.drew)
    (conv => whnf)
    refine hS.ldrF (hE.at_ 2 rfl) (Errs.out hE 2 rfl hqF) id ?_
    repeat' ((conv => whnf); first | refine RetC.mk ?_ | refine NzC.mk (by decide) ?_ | refine RngC.mk (by omega) (by omega) ?_ | refine IdxC.mk (by omega) (by omega) ?_ | refine brD (fun _ => ?_) (fun _ => ?_) | refine brND (fun _ => ?_) (fun _ => ?_) | refine brN (fun _ => ?_) (fun _ => ?_) | refine brI (fun _ => ?_) (fun _ => ?_))
    exact ⟨none, 0, none, 0, rfl, St.turns ((hS.addNil 113 5 encNV).addNil 135 10 encCell)⟩
  (conv => whnf)
  refine hS.ld 0 rfl rfl ?_
  (conv => whnf)
  refine RngC.mk (by omega) (by omega) ?_
  (conv => whnf)
  refine hS.st 0 rfl (Nat.le_of_ble_eq_true rfl) rfl (fun w' hS => ?_)
  replace hS : St w (inF (nodeB A N B)) w' (nodeB A { N with now := N.now + 1 } B) := hS
  have hn3 := hS.ne 0 3 rfl rfl (by decide)
  (conv => whnf)
  (refine drawS tabOk mixed [] (fun b => b = A.t) [0, 1, 2, 3, 4, 5, 6, 7, 8] (by kernel_rfl) ?_; rintro w1 rfl; replace hS := hS.drew)
  repeat' ((conv => whnf); first | refine hS.ldF 0 rfl rfl hn3 ?_)
  refine (texpire_ok (N.now + 1) (hS.blk 3 rfl) hO.tab (by omega) ((hE.ext hS.ext hqF).sub rfl) (hqF A.t (nodeB_H nodeH_t))).mono ?_
  rintro v w' ⟨⟨a', c', rfl⟩, hx, hB1, _, _⟩
  refine KeepC.mk hx ?_
  have hB := hB1
  replace hS := hS.upd 3 rfl hx (fun c hc => by subst hc; exact List.mem_singleton.2 rfl) (blk_local _ _ _) hB (fun c hc => .inl hc)
  (conv => whnf)
  refine hS.ld 0 rfl rfl ?_
  (conv => whnf)
  refine (role_tick (hS.blk 1 rfl) hO.role).mono ?_
  rintro v w' ⟨rfl, hx, hB⟩
  replace hS := hS.upd 1 rfl hx (fun c hc => by subst hc; exact List.mem_singleton.2 rfl) (blk_local _ _ _) hB (fun c hc => .inl hc)
  replace hS : St w (inF (nodeB A N B)) w' (nodeB A N.step.2 B) := hS
  have hO1 := hO.step (by omega) (by omega)
  clear hx hB hB1
  cases hs : N.role.tick.1
  · have hO2 := hO1
    rw [show N.tick B = (0, (N.step.2.notes false).1, (N.step.2.notes false).2, B) by
      unfold NodeS.tick
      rw [if_neg hn, if_neg (by rw [show N.step.1 = N.role.tick.1 from rfl, hs]; decide)]]
    generalize N.step.2 = N2 at hS hO2 ⊢
    (conv => whnf)
    refine hS.ld 0 rfl rfl ?_
    (conv => whnf)
    refine (role_active (hS.blk 1 rfl)).mono ?_
    rintro v w9 ⟨rfl, rfl⟩
    replace hS := hS.addNil 113 5 encNV
    cases hact : (N2).role.active
    · have hbt : (N2).beat = false := by
        unfold NodeS.beat
        rw [hact]
        rfl
      repeat' ((conv => whnf); first | refine RetC.mk ?_ | refine NzC.mk (by decide) ?_ | refine RngC.mk (by omega) (by omega) ?_ | refine IdxC.mk (by omega) (by omega) ?_ | refine brD (fun _ => ?_) (fun _ => ?_) | refine brND (fun _ => ?_) (fun _ => ?_) | refine brN (fun _ => ?_) (fun _ => ?_) | refine brI (fun _ => ?_) (fun _ => ?_))
      rw [notes_ff hbt]
      exact ⟨none, 0, none, 0, rfl, St.turns (hS.addNil 135 10 encCell)⟩
    · skip
      (conv => whnf)
      refine hS.ld 0 rfl rfl ?_
      (conv => whnf)
      refine NzC.mk (by decide) ?_
      (conv => whnf)
      refine brD (fun hz => ?_) (fun hz => ?_)
      · have hbt : (N2).beat = true := by
          unfold NodeS.beat
          rw [hact, decide_eq_true hz]
          rfl
        (conv => whnf)
        (refine drawS tabOk mixed [] (No) [0, 1, 2, 3, 4, 5, 6, 7, 8, 10, 11, 12, 13, 9, 14, 15, 16, 17, 18] (by kernel_rfl) ?_; rintro w1 rfl; replace hS := hS.drew)
        have hK := hS.ref No
        repeat' ((conv => whnf); first | refine hS.ldF 0 rfl rfl id ?_)
        refine (clife_ok (hS.blk 2 rfl)).mono ?_
        rintro v w' ⟨rfl, hx⟩
        replace hS := hS.no hx
        replace hK := hK.trans hx
        refine KeepC.mk hK ?_
        clear hx
        (conv => whnf)
        refine (role_epoch (hS.blk 1 rfl)).mono ?_
        rintro v w2 ⟨rfl, rfl⟩
        refine KeepC.mk hK ?_
        (conv => whnf)
        refine hS.litX Tryz.underlying67 (sz := 5) (by kernel_rfl) (z := .agg (encNV noNV).toArray) (by kernel_rfl) rfl rfl (cs := encNV ⟨(N2).id, (N2).cell.li, (N2).role.epoch, true, none, 0, 0⟩) (by rfl) (fun b9 w3 hb9 hx hS => ?_)
        replace hK := hK.trans hx
        refine KeepC.mk hK ?_
        clear hx
        (conv => whnf)
        refine hS.appX codNote 8 (ys := [⟨(N2).id, (N2).cell.li, (N2).role.epoch, true, none, 0, 0⟩]) (G := fun _ => True) Tryz.underlying67 (bytes := 56) (by kernel_rfl) (z := .agg (encNV noNV).toArray) (by kernel_rfl) rfl rfl (Slc.of_blk codNote (hS.blk 9 rfl) rfl (by simp) (fun _ _ => trivial) rfl) (by unfold maxLen; decide) (by decide) (fun a1 c1 w4 hx hS => ?_)
        replace hK := hK.trans (hx.mono fun q h => by simp [Value.ownBlock] at h)
        refine KeepC.mk hK ?_
        clear hx hK
        replace hS := hS.keep 9
        replace hS : St w (inF (nodeB A N B)) w4 (nodeB A (N2) (B) ++ [ownL 113 5 encNV (.slice a1 1 c1) [⟨(N2).id, (N2).cell.li, (N2).role.epoch, true, none, 0, 0⟩]]) := hS
        (conv => whnf)
        refine brD (fun _ => ?_) (fun h => absurd hz h)
        (conv => whnf)
        have hn4 := hS.ne 0 4 rfl rfl (by decide)
        have hn8 : ¬ (Value.slice a1 1 c1).ownBlock = some A.n := fun h => hS.apartAt 0 8 rfl rfl (by decide) _ (List.mem_singleton.2 rfl) (by simp only [ownL, own]; rw [h]; simp)
        (refine drawS tabOk mixed [] (fun b => b = A.x ∨ (Value.slice a1 1 c1).ownBlock = some b) [0, 1, 2, 3, 4, 5, 6, 7, 8, 10, 11, 12, 13, 15, 16, 17, 18, 9, 14, 19, 20, 21, 22, 23] (by kernel_rfl) ?_; rintro w1 rfl; replace hS := hS.drew)
        have hK := hS.ref (fun b => b = A.x ∨ (Value.slice a1 1 c1).ownBlock = some b)
        repeat' ((conv => whnf); first | refine hS.ldF 0 rfl rfl (fun h => h.elim hn4 hn8) ?_)
        refine (clife_ok (hS.blk 2 rfl)).mono ?_
        rintro v w' ⟨rfl, hx⟩
        replace hS := hS.no hx
        replace hK := hK.trans hx.of_no
        refine KeepC.mk hK ?_
        clear hx
        (conv => whnf)
        refine (role_epoch (hS.blk 1 rfl)).mono ?_
        rintro v w2 ⟨rfl, rfl⟩
        refine KeepC.mk hK ?_
        (conv => whnf)
        refine (tlNext_ok (hS.blk 4 rfl) (hS.blk 3 rfl) hO2.tab.len hO2.told hO2.cur).mono ?_
        rintro v w' ⟨⟨x, y, rfl⟩, hx, hB, ho, hf⟩
        replace hS := hS.updMade 4 rfl hx (fun c hc => by subst hc; exact List.mem_singleton.2 rfl) (blk_local _ _ _) hB (fun c hc => hc) ownL_local ho (fun g hg => hf g (by simpa [ownL, own] using hg))
        replace hK := hK.trans (hx.mono fun b h => .inl h)
        refine KeepC.mk hK ?_
        clear hx hB ho hf
        (conv => whnf)
        refine hS.litX Tryz.underlying67 (sz := 5) (by kernel_rfl) (z := .agg (encNV noNV).toArray) (by kernel_rfl) rfl rfl (cs := encNV ⟨(N2).id, (N2).cell.li, (N2).role.epoch, false, x, ((N2).tel.picks (N2).tab.cells).length, y⟩) (by rfl) (fun b9 w3 hb9 hx hS => ?_)
        replace hK := hK.trans hx.of_no
        refine KeepC.mk hK ?_
        clear hx
        (conv => whnf)
        refine hS.appX codNote 8 (ys := [⟨(N2).id, (N2).cell.li, (N2).role.epoch, false, x, ((N2).tel.picks (N2).tab.cells).length, y⟩]) (G := fun _ => True) Tryz.underlying67 (bytes := 56) (by kernel_rfl) (z := .agg (encNV noNV).toArray) (by kernel_rfl) rfl rfl (Slc.of_blk codNote (hS.blk 10 rfl) rfl (by simp) (fun _ _ => trivial) rfl) (by unfold maxLen; show 1 + 1 ≤ _; decide) (by show (1 + 1) * 56 ≤ _; decide) (fun a2 c2 w4 hx hS => ?_)
        replace hK := hK.trans (hx.mono fun q h => .inr h)
        refine KeepC.mk hK ?_
        clear hx hK
        replace hS := hS.keep 10
        repeat' ((conv => whnf); first | refine RetC.mk ?_ | refine NzC.mk (by decide) ?_ | refine RngC.mk (by omega) (by omega) ?_ | refine IdxC.mk (by omega) (by omega) ?_ | refine brD (fun _ => ?_) (fun _ => ?_) | refine brND (fun _ => ?_) (fun _ => ?_) | refine brN (fun _ => ?_) (fun _ => ?_) | refine brI (fun _ => ?_) (fun _ => ?_))
        rw [notes_t hbt]
        replace hS : St w (inF (nodeB A N B)) w4 (nodeB A { (N2) with tel := (N2).tel.next (N2).tab.cells } (B) ++ noteH a2 c2 x y [⟨(N2).id, (N2).cell.li, (N2).role.epoch, true, []⟩, ⟨(N2).id, (N2).cell.li, (N2).role.epoch, false, outC (N2).tab.cells ((N2).tel.picks (N2).tab.cells)⟩]) := by
          have hc : cellsOfN [⟨(N2).id, (N2).cell.li, (N2).role.epoch, true, []⟩, ⟨(N2).id, (N2).cell.li, (N2).role.epoch, false, outC (N2).tab.cells ((N2).tel.picks (N2).tab.cells)⟩] = outC (N2).tab.cells ((N2).tel.picks (N2).tab.cells) := by simp [cellsOfN]
          have hv : [(⟨(N2).id, (N2).cell.li, (N2).role.epoch, true, []⟩ : NoteS), ⟨(N2).id, (N2).cell.li, (N2).role.epoch, false, outC (N2).tab.cells ((N2).tel.picks (N2).tab.cells)⟩].map (noteV x y) = [⟨(N2).id, (N2).cell.li, (N2).role.epoch, true, none, 0, 0⟩, ⟨(N2).id, (N2).cell.li, (N2).role.epoch, false, x, ((N2).tel.picks (N2).tab.cells).length, y⟩] := by simp [noteV, outC_len]
          unfold noteH
          rw [hc, hv, outC_len]
          exact hS
        exact ⟨a2, c2, x, y, rfl, St.turns hS⟩
      · have hbt : (N2).beat = false := by
          unfold NodeS.beat
          rw [decide_eq_false hz, Bool.and_false]
        (conv => whnf)
        refine brD (fun h => absurd h hz) (fun _ => ?_)
        repeat' ((conv => whnf); first | refine RetC.mk ?_ | refine NzC.mk (by decide) ?_ | refine RngC.mk (by omega) (by omega) ?_ | refine IdxC.mk (by omega) (by omega) ?_ | refine brD (fun _ => ?_) (fun _ => ?_) | refine brND (fun _ => ?_) (fun _ => ?_) | refine brN (fun _ => ?_) (fun _ => ?_) | refine brI (fun _ => ?_) (fun _ => ?_))
        rw [notes_ff hbt]
        exact ⟨none, 0, none, 0, rfl, St.turns (hS.addNil 135 10 encCell)⟩
  · have hs1 : N.step.1 = true := hs
    (conv => whnf)
    refine (nclaim_ok hS.has hO1 hBB (step_active hs1) (by omega) (hE.ext hS.ext hqF) (hS.high hqF hqw)).mono ?_
    rintro v w' ⟨rfl, ht⟩
    replace hS := hS.turned ht
    have hO2 := hO1.claim (step_active hs1) B
    rw [show N.tick B = if (N.step.2.claim B).1.2 ≠ 0 then ((N.step.2.claim B).1.2, [], (N.step.2.claim B).2.1, (N.step.2.claim B).2.2) else (0, ((N.step.2.claim B).2.1.notes (N.step.2.claim B).1.1).1, ((N.step.2.claim B).2.1.notes (N.step.2.claim B).1.1).2, (N.step.2.claim B).2.2) by
      unfold NodeS.tick
      rw [if_neg hn, if_pos hs1]]
    generalize N.step.2.claim B = R at hS hO2 ⊢
    obtain ⟨⟨cl, e⟩, N2, B2⟩ := R
    replace hS : St w (inF (nodeB A N B)) w' (nodeB A N2 B2) := hS
    replace hO2 : NOk (m + 1 + 33) N2 := hO2
    cases e with
    | succ j =>
      rw [if_pos (show ((cl, j + 1), N2, B2).1.2 ≠ 0 by simp)]
      repeat' ((conv => whnf); first | refine RetC.mk ?_ | refine NzC.mk (by decide) ?_ | refine RngC.mk (by omega) (by omega) ?_ | refine IdxC.mk (by omega) (by omega) ?_ | refine brD (fun _ => ?_) (fun _ => ?_) | refine brND (fun _ => ?_) (fun _ => ?_) | refine brN (fun _ => ?_) (fun _ => ?_) | refine brI (fun _ => ?_) (fun _ => ?_))
      exact ⟨none, 0, none, 0, rfl, St.turns ((hS.addNil 113 5 encNV).addNil 135 10 encCell)⟩
    | zero =>
      rw [if_neg (show ¬ ((cl, 0), N2, B2).1.2 ≠ 0 by simp)]
      dsimp only
      cases cl
      · skip
        (conv => whnf)
        refine hS.ld 0 rfl rfl ?_
        (conv => whnf)
        refine (role_active (hS.blk 1 rfl)).mono ?_
        rintro v w9 ⟨rfl, rfl⟩
        replace hS := hS.addNil 113 5 encNV
        cases hact : (N2).role.active
        · have hbt : (N2).beat = false := by
            unfold NodeS.beat
            rw [hact]
            rfl
          repeat' ((conv => whnf); first | refine RetC.mk ?_ | refine NzC.mk (by decide) ?_ | refine RngC.mk (by omega) (by omega) ?_ | refine IdxC.mk (by omega) (by omega) ?_ | refine brD (fun _ => ?_) (fun _ => ?_) | refine brND (fun _ => ?_) (fun _ => ?_) | refine brN (fun _ => ?_) (fun _ => ?_) | refine brI (fun _ => ?_) (fun _ => ?_))
          rw [notes_ff hbt]
          exact ⟨none, 0, none, 0, rfl, St.turns (hS.addNil 135 10 encCell)⟩
        · skip
          (conv => whnf)
          refine hS.ld 0 rfl rfl ?_
          (conv => whnf)
          refine NzC.mk (by decide) ?_
          (conv => whnf)
          refine brD (fun hz => ?_) (fun hz => ?_)
          · have hbt : (N2).beat = true := by
              unfold NodeS.beat
              rw [hact, decide_eq_true hz]
              rfl
            (conv => whnf)
            (refine drawS tabOk mixed [] (No) [0, 1, 2, 3, 4, 5, 6, 7, 8, 10, 11, 12, 13, 9, 14, 15, 16, 17, 18] (by kernel_rfl) ?_; rintro w1 rfl; replace hS := hS.drew)
            have hK := hS.ref No
            repeat' ((conv => whnf); first | refine hS.ldF 0 rfl rfl id ?_)
            refine (clife_ok (hS.blk 2 rfl)).mono ?_
            rintro v w' ⟨rfl, hx⟩
            replace hS := hS.no hx
            replace hK := hK.trans hx
            refine KeepC.mk hK ?_
            clear hx
            (conv => whnf)
            refine (role_epoch (hS.blk 1 rfl)).mono ?_
            rintro v w2 ⟨rfl, rfl⟩
            refine KeepC.mk hK ?_
            (conv => whnf)
            refine hS.litX Tryz.underlying67 (sz := 5) (by kernel_rfl) (z := .agg (encNV noNV).toArray) (by kernel_rfl) rfl rfl (cs := encNV ⟨(N2).id, (N2).cell.li, (N2).role.epoch, true, none, 0, 0⟩) (by rfl) (fun b9 w3 hb9 hx hS => ?_)
            replace hK := hK.trans hx
            refine KeepC.mk hK ?_
            clear hx
            (conv => whnf)
            refine hS.appX codNote 8 (ys := [⟨(N2).id, (N2).cell.li, (N2).role.epoch, true, none, 0, 0⟩]) (G := fun _ => True) Tryz.underlying67 (bytes := 56) (by kernel_rfl) (z := .agg (encNV noNV).toArray) (by kernel_rfl) rfl rfl (Slc.of_blk codNote (hS.blk 9 rfl) rfl (by simp) (fun _ _ => trivial) rfl) (by unfold maxLen; decide) (by decide) (fun a1 c1 w4 hx hS => ?_)
            replace hK := hK.trans (hx.mono fun q h => by simp [Value.ownBlock] at h)
            refine KeepC.mk hK ?_
            clear hx hK
            replace hS := hS.keep 9
            replace hS : St w (inF (nodeB A N B)) w4 (nodeB A (N2) (B2) ++ [ownL 113 5 encNV (.slice a1 1 c1) [⟨(N2).id, (N2).cell.li, (N2).role.epoch, true, none, 0, 0⟩]]) := hS
            (conv => whnf)
            refine brD (fun _ => ?_) (fun h => absurd hz h)
            (conv => whnf)
            have hn4 := hS.ne 0 4 rfl rfl (by decide)
            have hn8 : ¬ (Value.slice a1 1 c1).ownBlock = some A.n := fun h => hS.apartAt 0 8 rfl rfl (by decide) _ (List.mem_singleton.2 rfl) (by simp only [ownL, own]; rw [h]; simp)
            (refine drawS tabOk mixed [] (fun b => b = A.x ∨ (Value.slice a1 1 c1).ownBlock = some b) [0, 1, 2, 3, 4, 5, 6, 7, 8, 10, 11, 12, 13, 15, 16, 17, 18, 9, 14, 19, 20, 21, 22, 23] (by kernel_rfl) ?_; rintro w1 rfl; replace hS := hS.drew)
            have hK := hS.ref (fun b => b = A.x ∨ (Value.slice a1 1 c1).ownBlock = some b)
            repeat' ((conv => whnf); first | refine hS.ldF 0 rfl rfl (fun h => h.elim hn4 hn8) ?_)
            refine (clife_ok (hS.blk 2 rfl)).mono ?_
            rintro v w' ⟨rfl, hx⟩
            replace hS := hS.no hx
            replace hK := hK.trans hx.of_no
            refine KeepC.mk hK ?_
            clear hx
            (conv => whnf)
            refine (role_epoch (hS.blk 1 rfl)).mono ?_
            rintro v w2 ⟨rfl, rfl⟩
            refine KeepC.mk hK ?_
            (conv => whnf)
            refine (tlNext_ok (hS.blk 4 rfl) (hS.blk 3 rfl) hO2.tab.len hO2.told hO2.cur).mono ?_
            rintro v w' ⟨⟨x, y, rfl⟩, hx, hB, ho, hf⟩
            replace hS := hS.updMade 4 rfl hx (fun c hc => by subst hc; exact List.mem_singleton.2 rfl) (blk_local _ _ _) hB (fun c hc => hc) ownL_local ho (fun g hg => hf g (by simpa [ownL, own] using hg))
            replace hK := hK.trans (hx.mono fun b h => .inl h)
            refine KeepC.mk hK ?_
            clear hx hB ho hf
            (conv => whnf)
            refine hS.litX Tryz.underlying67 (sz := 5) (by kernel_rfl) (z := .agg (encNV noNV).toArray) (by kernel_rfl) rfl rfl (cs := encNV ⟨(N2).id, (N2).cell.li, (N2).role.epoch, false, x, ((N2).tel.picks (N2).tab.cells).length, y⟩) (by rfl) (fun b9 w3 hb9 hx hS => ?_)
            replace hK := hK.trans hx.of_no
            refine KeepC.mk hK ?_
            clear hx
            (conv => whnf)
            refine hS.appX codNote 8 (ys := [⟨(N2).id, (N2).cell.li, (N2).role.epoch, false, x, ((N2).tel.picks (N2).tab.cells).length, y⟩]) (G := fun _ => True) Tryz.underlying67 (bytes := 56) (by kernel_rfl) (z := .agg (encNV noNV).toArray) (by kernel_rfl) rfl rfl (Slc.of_blk codNote (hS.blk 10 rfl) rfl (by simp) (fun _ _ => trivial) rfl) (by unfold maxLen; show 1 + 1 ≤ _; decide) (by show (1 + 1) * 56 ≤ _; decide) (fun a2 c2 w4 hx hS => ?_)
            replace hK := hK.trans (hx.mono fun q h => .inr h)
            refine KeepC.mk hK ?_
            clear hx hK
            replace hS := hS.keep 10
            repeat' ((conv => whnf); first | refine RetC.mk ?_ | refine NzC.mk (by decide) ?_ | refine RngC.mk (by omega) (by omega) ?_ | refine IdxC.mk (by omega) (by omega) ?_ | refine brD (fun _ => ?_) (fun _ => ?_) | refine brND (fun _ => ?_) (fun _ => ?_) | refine brN (fun _ => ?_) (fun _ => ?_) | refine brI (fun _ => ?_) (fun _ => ?_))
            rw [notes_t hbt]
            replace hS : St w (inF (nodeB A N B)) w4 (nodeB A { (N2) with tel := (N2).tel.next (N2).tab.cells } (B2) ++ noteH a2 c2 x y [⟨(N2).id, (N2).cell.li, (N2).role.epoch, true, []⟩, ⟨(N2).id, (N2).cell.li, (N2).role.epoch, false, outC (N2).tab.cells ((N2).tel.picks (N2).tab.cells)⟩]) := by
              have hc : cellsOfN [⟨(N2).id, (N2).cell.li, (N2).role.epoch, true, []⟩, ⟨(N2).id, (N2).cell.li, (N2).role.epoch, false, outC (N2).tab.cells ((N2).tel.picks (N2).tab.cells)⟩] = outC (N2).tab.cells ((N2).tel.picks (N2).tab.cells) := by simp [cellsOfN]
              have hv : [(⟨(N2).id, (N2).cell.li, (N2).role.epoch, true, []⟩ : NoteS), ⟨(N2).id, (N2).cell.li, (N2).role.epoch, false, outC (N2).tab.cells ((N2).tel.picks (N2).tab.cells)⟩].map (noteV x y) = [⟨(N2).id, (N2).cell.li, (N2).role.epoch, true, none, 0, 0⟩, ⟨(N2).id, (N2).cell.li, (N2).role.epoch, false, x, ((N2).tel.picks (N2).tab.cells).length, y⟩] := by simp [noteV, outC_len]
              unfold noteH
              rw [hc, hv, outC_len]
              exact hS
            exact ⟨a2, c2, x, y, rfl, St.turns hS⟩
          · have hbt : (N2).beat = false := by
              unfold NodeS.beat
              rw [decide_eq_false hz, Bool.and_false]
            (conv => whnf)
            refine brD (fun h => absurd h hz) (fun _ => ?_)
            repeat' ((conv => whnf); first | refine RetC.mk ?_ | refine NzC.mk (by decide) ?_ | refine RngC.mk (by omega) (by omega) ?_ | refine IdxC.mk (by omega) (by omega) ?_ | refine brD (fun _ => ?_) (fun _ => ?_) | refine brND (fun _ => ?_) (fun _ => ?_) | refine brN (fun _ => ?_) (fun _ => ?_) | refine brI (fun _ => ?_) (fun _ => ?_))
            rw [notes_ff hbt]
            exact ⟨none, 0, none, 0, rfl, St.turns (hS.addNil 135 10 encCell)⟩
      · skip
        (conv => whnf)
        refine hS.ld 0 rfl rfl ?_
        (conv => whnf)
        refine (role_active (hS.blk 1 rfl)).mono ?_
        rintro v w9 ⟨rfl, rfl⟩
        replace hS := hS.addNil 113 5 encNV
        cases hact : (N2).role.active
        · have hbt : (N2).beat = false := by
            unfold NodeS.beat
            rw [hact]
            rfl
          (conv => whnf)
          (refine drawS tabOk mixed [] (No) [0, 1, 2, 3, 4, 5, 6, 7, 8, 10, 11, 12, 13, 9, 14, 15, 16, 17, 18] (by kernel_rfl) ?_; rintro w1 rfl; replace hS := hS.drew)
          have hK := hS.ref No
          repeat' ((conv => whnf); first | refine hS.ldF 0 rfl rfl id ?_)
          refine (clife_ok (hS.blk 2 rfl)).mono ?_
          rintro v w' ⟨rfl, hx⟩
          replace hS := hS.no hx
          replace hK := hK.trans hx
          refine KeepC.mk hK ?_
          clear hx
          (conv => whnf)
          refine (role_epoch (hS.blk 1 rfl)).mono ?_
          rintro v w2 ⟨rfl, rfl⟩
          refine KeepC.mk hK ?_
          (conv => whnf)
          refine hS.litX Tryz.underlying67 (sz := 5) (by kernel_rfl) (z := .agg (encNV noNV).toArray) (by kernel_rfl) rfl rfl (cs := encNV ⟨(N2).id, (N2).cell.li, (N2).role.epoch, true, none, 0, 0⟩) (by rfl) (fun b9 w3 hb9 hx hS => ?_)
          replace hK := hK.trans hx
          refine KeepC.mk hK ?_
          clear hx
          (conv => whnf)
          refine hS.appX codNote 8 (ys := [⟨(N2).id, (N2).cell.li, (N2).role.epoch, true, none, 0, 0⟩]) (G := fun _ => True) Tryz.underlying67 (bytes := 56) (by kernel_rfl) (z := .agg (encNV noNV).toArray) (by kernel_rfl) rfl rfl (Slc.of_blk codNote (hS.blk 9 rfl) rfl (by simp) (fun _ _ => trivial) rfl) (by unfold maxLen; decide) (by decide) (fun a1 c1 w4 hx hS => ?_)
          replace hK := hK.trans (hx.mono fun q h => by simp [Value.ownBlock] at h)
          refine KeepC.mk hK ?_
          clear hx hK
          replace hS := hS.keep 9
          repeat' ((conv => whnf); first | refine RetC.mk ?_ | refine NzC.mk (by decide) ?_ | refine RngC.mk (by omega) (by omega) ?_ | refine IdxC.mk (by omega) (by omega) ?_ | refine brD (fun _ => ?_) (fun _ => ?_) | refine brND (fun _ => ?_) (fun _ => ?_) | refine brN (fun _ => ?_) (fun _ => ?_) | refine brI (fun _ => ?_) (fun _ => ?_))
          rw [notes_tf hbt]
          exact ⟨a1, c1, none, 0, rfl, St.turns (hS.addNil 135 10 encCell)⟩
        · skip
          (conv => whnf)
          refine hS.ld 0 rfl rfl ?_
          (conv => whnf)
          refine NzC.mk (by decide) ?_
          by_cases hz : (N2).now.tmod 3 = 0
          · have hbt : (N2).beat = true := by
              unfold NodeS.beat
              rw [hact, decide_eq_true hz]
              rfl
            (conv => whnf)
            (refine drawS tabOk mixed [] (No) [0, 1, 2, 3, 4, 5, 6, 7, 8, 10, 11, 12, 13, 9, 14, 15, 16, 17, 18] (by kernel_rfl) ?_; rintro w1 rfl; replace hS := hS.drew)
            have hK := hS.ref No
            repeat' ((conv => whnf); first | refine hS.ldF 0 rfl rfl id ?_)
            refine (clife_ok (hS.blk 2 rfl)).mono ?_
            rintro v w' ⟨rfl, hx⟩
            replace hS := hS.no hx
            replace hK := hK.trans hx
            refine KeepC.mk hK ?_
            clear hx
            (conv => whnf)
            refine (role_epoch (hS.blk 1 rfl)).mono ?_
            rintro v w2 ⟨rfl, rfl⟩
            refine KeepC.mk hK ?_
            (conv => whnf)
            refine hS.litX Tryz.underlying67 (sz := 5) (by kernel_rfl) (z := .agg (encNV noNV).toArray) (by kernel_rfl) rfl rfl (cs := encNV ⟨(N2).id, (N2).cell.li, (N2).role.epoch, true, none, 0, 0⟩) (by rfl) (fun b9 w3 hb9 hx hS => ?_)
            replace hK := hK.trans hx
            refine KeepC.mk hK ?_
            clear hx
            (conv => whnf)
            refine hS.appX codNote 8 (ys := [⟨(N2).id, (N2).cell.li, (N2).role.epoch, true, none, 0, 0⟩]) (G := fun _ => True) Tryz.underlying67 (bytes := 56) (by kernel_rfl) (z := .agg (encNV noNV).toArray) (by kernel_rfl) rfl rfl (Slc.of_blk codNote (hS.blk 9 rfl) rfl (by simp) (fun _ _ => trivial) rfl) (by unfold maxLen; decide) (by decide) (fun a1 c1 w4 hx hS => ?_)
            replace hK := hK.trans (hx.mono fun q h => by simp [Value.ownBlock] at h)
            refine KeepC.mk hK ?_
            clear hx hK
            replace hS := hS.keep 9
            replace hS : St w (inF (nodeB A N B)) w4 (nodeB A (N2) (B2) ++ [ownL 113 5 encNV (.slice a1 1 c1) [⟨(N2).id, (N2).cell.li, (N2).role.epoch, true, none, 0, 0⟩]]) := hS
            (conv => whnf)
            refine brD (fun _ => ?_) (fun h => absurd hz h)
            (conv => whnf)
            have hn4 := hS.ne 0 4 rfl rfl (by decide)
            have hn8 : ¬ (Value.slice a1 1 c1).ownBlock = some A.n := fun h => hS.apartAt 0 8 rfl rfl (by decide) _ (List.mem_singleton.2 rfl) (by simp only [ownL, own]; rw [h]; simp)
            (refine drawS tabOk mixed [] (fun b => b = A.x ∨ (Value.slice a1 1 c1).ownBlock = some b) [0, 1, 2, 3, 4, 5, 6, 7, 8, 10, 11, 12, 13, 15, 16, 17, 18, 9, 14, 19, 20, 21, 22, 23] (by kernel_rfl) ?_; rintro w1 rfl; replace hS := hS.drew)
            have hK := hS.ref (fun b => b = A.x ∨ (Value.slice a1 1 c1).ownBlock = some b)
            repeat' ((conv => whnf); first | refine hS.ldF 0 rfl rfl (fun h => h.elim hn4 hn8) ?_)
            refine (clife_ok (hS.blk 2 rfl)).mono ?_
            rintro v w' ⟨rfl, hx⟩
            replace hS := hS.no hx
            replace hK := hK.trans hx.of_no
            refine KeepC.mk hK ?_
            clear hx
            (conv => whnf)
            refine (role_epoch (hS.blk 1 rfl)).mono ?_
            rintro v w2 ⟨rfl, rfl⟩
            refine KeepC.mk hK ?_
            (conv => whnf)
            refine (tlNext_ok (hS.blk 4 rfl) (hS.blk 3 rfl) hO2.tab.len hO2.told hO2.cur).mono ?_
            rintro v w' ⟨⟨x, y, rfl⟩, hx, hB, ho, hf⟩
            replace hS := hS.updMade 4 rfl hx (fun c hc => by subst hc; exact List.mem_singleton.2 rfl) (blk_local _ _ _) hB (fun c hc => hc) ownL_local ho (fun g hg => hf g (by simpa [ownL, own] using hg))
            replace hK := hK.trans (hx.mono fun b h => .inl h)
            refine KeepC.mk hK ?_
            clear hx hB ho hf
            (conv => whnf)
            refine hS.litX Tryz.underlying67 (sz := 5) (by kernel_rfl) (z := .agg (encNV noNV).toArray) (by kernel_rfl) rfl rfl (cs := encNV ⟨(N2).id, (N2).cell.li, (N2).role.epoch, false, x, ((N2).tel.picks (N2).tab.cells).length, y⟩) (by rfl) (fun b9 w3 hb9 hx hS => ?_)
            replace hK := hK.trans hx.of_no
            refine KeepC.mk hK ?_
            clear hx
            (conv => whnf)
            refine hS.appX codNote 8 (ys := [⟨(N2).id, (N2).cell.li, (N2).role.epoch, false, x, ((N2).tel.picks (N2).tab.cells).length, y⟩]) (G := fun _ => True) Tryz.underlying67 (bytes := 56) (by kernel_rfl) (z := .agg (encNV noNV).toArray) (by kernel_rfl) rfl rfl (Slc.of_blk codNote (hS.blk 10 rfl) rfl (by simp) (fun _ _ => trivial) rfl) (by unfold maxLen; show 1 + 1 ≤ _; decide) (by show (1 + 1) * 56 ≤ _; decide) (fun a2 c2 w4 hx hS => ?_)
            replace hK := hK.trans (hx.mono fun q h => .inr h)
            refine KeepC.mk hK ?_
            clear hx hK
            replace hS := hS.keep 10
            repeat' ((conv => whnf); first | refine RetC.mk ?_ | refine NzC.mk (by decide) ?_ | refine RngC.mk (by omega) (by omega) ?_ | refine IdxC.mk (by omega) (by omega) ?_ | refine brD (fun _ => ?_) (fun _ => ?_) | refine brND (fun _ => ?_) (fun _ => ?_) | refine brN (fun _ => ?_) (fun _ => ?_) | refine brI (fun _ => ?_) (fun _ => ?_))
            rw [notes_t hbt]
            replace hS : St w (inF (nodeB A N B)) w4 (nodeB A { (N2) with tel := (N2).tel.next (N2).tab.cells } (B2) ++ noteH a2 c2 x y [⟨(N2).id, (N2).cell.li, (N2).role.epoch, true, []⟩, ⟨(N2).id, (N2).cell.li, (N2).role.epoch, false, outC (N2).tab.cells ((N2).tel.picks (N2).tab.cells)⟩]) := by
              have hc : cellsOfN [⟨(N2).id, (N2).cell.li, (N2).role.epoch, true, []⟩, ⟨(N2).id, (N2).cell.li, (N2).role.epoch, false, outC (N2).tab.cells ((N2).tel.picks (N2).tab.cells)⟩] = outC (N2).tab.cells ((N2).tel.picks (N2).tab.cells) := by simp [cellsOfN]
              have hv : [(⟨(N2).id, (N2).cell.li, (N2).role.epoch, true, []⟩ : NoteS), ⟨(N2).id, (N2).cell.li, (N2).role.epoch, false, outC (N2).tab.cells ((N2).tel.picks (N2).tab.cells)⟩].map (noteV x y) = [⟨(N2).id, (N2).cell.li, (N2).role.epoch, true, none, 0, 0⟩, ⟨(N2).id, (N2).cell.li, (N2).role.epoch, false, x, ((N2).tel.picks (N2).tab.cells).length, y⟩] := by simp [noteV, outC_len]
              unfold noteH
              rw [hc, hv, outC_len]
              exact hS
            exact ⟨a2, c2, x, y, rfl, St.turns hS⟩
          · have hbt : (N2).beat = false := by
              unfold NodeS.beat
              rw [decide_eq_false hz, Bool.and_false]
            (conv => whnf)
            (refine drawS tabOk mixed [] (No) [0, 1, 2, 3, 4, 5, 6, 7, 8, 10, 11, 12, 13, 9, 14, 15, 16, 17, 18] (by kernel_rfl) ?_; rintro w1 rfl; replace hS := hS.drew)
            have hK := hS.ref No
            repeat' ((conv => whnf); first | refine hS.ldF 0 rfl rfl id ?_)
            refine (clife_ok (hS.blk 2 rfl)).mono ?_
            rintro v w' ⟨rfl, hx⟩
            replace hS := hS.no hx
            replace hK := hK.trans hx
            refine KeepC.mk hK ?_
            clear hx
            (conv => whnf)
            refine (role_epoch (hS.blk 1 rfl)).mono ?_
            rintro v w2 ⟨rfl, rfl⟩
            refine KeepC.mk hK ?_
            (conv => whnf)
            refine hS.litX Tryz.underlying67 (sz := 5) (by kernel_rfl) (z := .agg (encNV noNV).toArray) (by kernel_rfl) rfl rfl (cs := encNV ⟨(N2).id, (N2).cell.li, (N2).role.epoch, true, none, 0, 0⟩) (by rfl) (fun b9 w3 hb9 hx hS => ?_)
            replace hK := hK.trans hx
            refine KeepC.mk hK ?_
            clear hx
            (conv => whnf)
            refine hS.appX codNote 8 (ys := [⟨(N2).id, (N2).cell.li, (N2).role.epoch, true, none, 0, 0⟩]) (G := fun _ => True) Tryz.underlying67 (bytes := 56) (by kernel_rfl) (z := .agg (encNV noNV).toArray) (by kernel_rfl) rfl rfl (Slc.of_blk codNote (hS.blk 9 rfl) rfl (by simp) (fun _ _ => trivial) rfl) (by unfold maxLen; decide) (by decide) (fun a1 c1 w4 hx hS => ?_)
            replace hK := hK.trans (hx.mono fun q h => by simp [Value.ownBlock] at h)
            refine KeepC.mk hK ?_
            clear hx hK
            replace hS := hS.keep 9
            (conv => whnf)
            refine brD (fun h => absurd h hz) (fun _ => ?_)
            repeat' ((conv => whnf); first | refine RetC.mk ?_ | refine NzC.mk (by decide) ?_ | refine RngC.mk (by omega) (by omega) ?_ | refine IdxC.mk (by omega) (by omega) ?_ | refine brD (fun _ => ?_) (fun _ => ?_) | refine brND (fun _ => ?_) (fun _ => ?_) | refine brN (fun _ => ?_) (fun _ => ?_) | refine brI (fun _ => ?_) (fun _ => ?_))
            rw [notes_tf hbt]
            exact ⟨a1, c1, none, 0, rfl, St.turns (hS.addNil 135 10 encCell)⟩
end
end Go.Proofs.YtakdekkieobbaaaGreatDoor
