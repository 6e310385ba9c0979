/-
  Texts of this claim, joined: Cells, Mirror, EvL, Mirrored, RefMirror, Table, Listed, TableB, TellS, RefTable, Teller, TellerB, RefTeller, TellL, RefTellN, MapT, Track.
-/
import Derived.Test.YtogjajjdaoihdaaGreatDoorScriptAgainB
import Derived.Laws.Tables
import Derived.Laws.OwnMore
import Derived.Laws.StructEq
import Derived.Laws.Cover2

namespace Go.Proofs.YtogjajjdaoihdaaGreatDoor
set_option maxRecDepth 20000
open Go Ev

structure FlowS where
 proto : Int
 ia : Int
 ip : Int
 fa : Int
 fp : Int
 port : Int
 state : Int
 til : Int
 deriving DecidableEq
structure CellS where
 slot : Int
 ver : Int
 f : FlowS
 deriving DecidableEq

def encFlow (f : FlowS) : List Value := [.int .i64 f.proto, .int .i64 f.ia, .int .i64 f.ip, .int .i64 f.fa, .int .i64 f.fp, .int .i64 f.port, .int .i64 f.state, .int .i64 f.til]
def encCell (c : CellS) : List Value := [.int .i64 c.slot, .int .i64 c.ver, .int .i64 c.f.proto, .int .i64 c.f.ia, .int .i64 c.f.ip, .int .i64 c.f.fa, .int .i64 c.f.fp, .int .i64 c.f.port, .int .i64 c.f.state, .int .i64 c.f.til]
def FlowS.pr (f : FlowS) : List Pr := [.int f.proto, .int f.ia, .int f.ip, .int f.fa, .int f.fp, .int f.port, .int f.state, .int f.til]
def CellS.pr (c : CellS) : List Pr := [.int c.slot, .int c.ver, .int c.f.proto, .int c.f.ia, .int c.f.ip, .int c.f.fa, .int c.f.fp, .int c.f.port, .int c.f.state, .int c.f.til]
def endPr (a p : Int) : List Pr := [.int a, .int p]
def noFlow : FlowS := ⟨0, 0, 0, 0, 0, 0, 0, 0⟩

theorem codCell : Codec 10 encCell := ⟨fun _ => rfl, fun _ => rfl, by decide⟩
theorem codFlow : Codec 8 encFlow := ⟨fun _ => rfl, fun _ => rfl, by decide⟩
def idxI {α : Type} (p : α → Bool) : List α → Nat → Int
 | [], _ => -1
 | x :: xs, k => match p x with | true => (k : Int) | false => idxI p xs (k + 1)
theorem idxI_step {α : Type} (p : α → Bool) {xs : List α} {k : Nat} {x : α} (hx : xs[k]? = some x) : idxI p (xs.drop k) k = match p x with | true => (k : Int) | false => idxI p (xs.drop (k + 1)) (k + 1) := by
 obtain ⟨hlt, rfl⟩ := List.getElem?_eq_some_iff.1 hx
 rw [List.drop_eq_getElem_cons hlt]
 rfl
theorem idxI_nonneg {α : Type} (p : α → Bool) : ∀ (xs : List α) (k : Nat), (0 ≤ idxI p xs k) = (xs.any p = true)
 | [], k => by simp [idxI]
 | x :: xs, k => by
   unfold idxI
   cases h : p x
   · simp [h, idxI_nonneg p xs (k + 1)]
   · simp [h]

section
variable {w : World} {G : CellS → Prop} {a b : Option Addr} {n m c d : Nat} {xs ys : List CellS}

theorem indexFunc_ok (p : CellS → Bool) (g : FuncId) (caps : List Value) (hx : Slc w 10 encCell G a n xs)
   (hg : ∀ x ∈ xs, G x → ∀ w', Ext No w w' → CallC Tryz.prog g ([Value.agg (encCell x).toArray] ++ caps).toArray w' fun v w'' => v = .bool (p x) ∧ Ext No w' w'') :
   CallC Tryz.prog 324 #[.slice a n c, .func (.func g) #[] caps.toArray] w fun v w' => v = .int .i64 (idxI p xs 0) ∧ Ext No w w' := by
 have hm := hx.max
 have hl := hx.len
 refine fn_intro tabOk Tryz.func324 (by kernel_rfl) rfl Tryz.ntmps324 (lbO rfl) ?_
 have hS := St.start w No
 conv=>whnf
 refine loopR tabOk (fun σ w' q => ∃ k : Nat, σ = [(8, .int .i64 k), (7, .int .i64 n), (1, .func (.func g) #[] caps.toArray), (0, .slice a n c)] ∧ q = n - k ∧ k ≤ n ∧ St w No w' [] ∧ idxI p xs 0 = idxI p (xs.drop k) k)
   (σ' := [(8, .int .i64 ((0 : Nat) : Int)), (7, .int .i64 n), (1, .func (.func g) #[] caps.toArray), (0, .slice a n c)]) (n := n) ⟨rfl, rfl, rfl, rfl, trivial⟩ ⟨0, rfl, rfl, Nat.zero_le _, hS, by simp⟩ ?_
 clear hS
 rintro _ w1 q ⟨k, rfl, rfl, hk, hS, hi⟩
 conv=>whnf
 refine brD (fun h3 => ?_) (fun h3 => ?_)
 · obtain ⟨b0, o0, x, hxk, hgx, rfl, _, hc⟩ := hx.at (k := k) (by omega)
   have hst := idxI_step p hxk
   conv=>whnf
   refine ixO ?_
   conv=>whnf
   refine hS.lar (l := encCell x) rfl hc id ?_
   have key := hg x (List.mem_of_getElem? hxk) hgx w1 hS.ext
   have fin : ∀ (K : Value → World → Prop), (∀ w', Ext No w1 w' → K (.bool (p x)) w') → CallC Tryz.prog g ([Value.agg (encCell x).toArray] ++ caps).toArray w1 K := by
     intro K hK
     refine key.mono ?_
     rintro v w' ⟨rfl, hx'⟩
     exact hK w' hx'
   clear key
   cases caps
   all_goals
     conv=>whnf
     refine fin _ ?_
     intro w' hx'
     replace hS := hS.no hx'
     conv=>whnf
     refine brI (fun h4 => ?_) (fun h4 => ?_)
     · repeat' ((conv => whnf); first | refine RetC.mk ?_ | refine nzO ?_ | refine rgO ?_ | refine ixO ?_ | (first|apply brD|apply brND|apply brN|apply brI) <;> (intro))
       rw [hi, hst, h4]
       exact ⟨rfl, hS.ext⟩
     · (conv => whnf)
       refine rgO ?_
       conv=>whnf
       refine LoopE.mk ⟨_, [(8, .int .i64 ((k + 1 : Nat) : Int)), (7, _), (1, _), (0, _)], ?_, ⟨rfl, rfl, rfl, rfl, trivial⟩, ⟨k + 1, rfl, rfl, by omega, hS, ?_⟩⟩
       · omega
       · rw [hi, hst, h4]
 · repeat' ((conv => whnf); first | refine RetC.mk ?_ | refine nzO ?_ | refine rgO ?_ | refine ixO ?_ | (first|apply brD|apply brND|apply brN|apply brI) <;> (intro))
   have : k = n := by omega
   subst this
   rw [hi, List.drop_of_length_le (by omega)]
   exact ⟨rfl, hS.ext⟩

theorem containsFunc_ok (p : CellS → Bool) (g : FuncId) (caps : List Value) (hx : Slc w 10 encCell G a n xs)
   (hg : ∀ x ∈ xs, G x → ∀ w', Ext No w w' → CallC Tryz.prog g ([Value.agg (encCell x).toArray] ++ caps).toArray w' fun v w'' => v = .bool (p x) ∧ Ext No w' w'') :
   CallC Tryz.prog 330 #[.slice a n c, .func (.func g) #[] caps.toArray] w fun v w' => v = .bool (xs.any p) ∧ Ext No w w' := by
 refine fn_intro tabOk Tryz.func330 (by kernel_rfl) rfl Tryz.ntmps330 (lbO rfl) ?_
 conv=>whnf
 refine (indexFunc_ok p g caps hx hg).mono ?_
 rintro v w' ⟨rfl, hx'⟩
 repeat' ((conv => whnf); first | refine RetC.mk ?_ | refine nzO ?_ | refine rgO ?_ | refine ixO ?_ | (first|apply brD|apply brND|apply brN|apply brI) <;> (intro))
 have e : decide (idxI p xs 0 ≥ 0) = xs.any p := by
   show decide (0 ≤ _) = _
   simp only [idxI_nonneg]
   cases xs.any p <;> rfl
 rw [e]
 exact ⟨rfl, hx'⟩

end
theorem Ev.St.ownNe {w0 w : World} {S : Nat → Prop} {H : List Ent} (h : St w0 S w H) (i j : Nat) {α : Type} {b : Nat} {t e : TypeId} {cs : List Value} {sz n c : Nat} {enc : α → List Value} {a : Option Addr} {xs : List α} (hi : H[i]? = some (Ev.blk b t cs)) (hj : H[j]? = some (ownL e sz enc (.slice a n c) xs)) (hne : i ≠ j) : ∀ b0 o0, a = some ⟨b0, o0, none⟩ → b0 ≠ b := by
 rintro b0 o0 rfl rfl
 have := pairwise_at apart_symm h.apart hi hj hne b0 (by simp [Ev.blk])
 simp [ownL, own, Value.ownBlock] at this
end Go.Proofs.YtogjajjdaoihdaaGreatDoor

namespace Go.Proofs.YtogjajjdaoihdaaGreatDoor
set_option maxRecDepth 20000
open Go Ev

structure MirS where
 life : Int
 cells : List CellS
def encM (m : MirS) : List Value := .int .i64 m.life :: m.cells.flatMap encCell
def emptyCells : List CellS := (List.range 32).map fun (i : Nat) => (⟨(i : Int), 0, noFlow⟩ : CellS)
theorem emptyCells_at {s : Nat} (h : s < 32) : emptyCells[s]? = some ⟨s, 0, noFlow⟩ := by simp [emptyCells, h]
theorem emptyCells_len : emptyCells.length = 32 := by simp [emptyCells]
def badSlot (c : CellS) : Bool := decide (c.slot < 0) || decide (c.slot ≥ 32)
def put1C (l : List CellS) (c : CellS) : List CellS := match l[c.slot.toNat]? with
 | some d => if c.ver > d.ver then l.set c.slot.toNat c else l
 | none => l
def MirS.tell (m : MirS) (life : Int) (xs : List CellS) : Nat × MirS :=
 if life < 1 ∨ xs.length > 8 ∨ xs.any badSlot = true then (2, m) else if life < m.life then (10, m) else
 (0, ⟨if life > m.life then life else m.life, xs.foldl put1C (if life > m.life then emptyCells else m.cells)⟩)
def flowsOf (l : List CellS) : List FlowS := (l.filter fun c => decide (c.f.proto ≠ 0)).map (·.f)

theorem put1C_len (l : List CellS) (c : CellS) : (put1C l c).length = l.length := by
 unfold put1C
 split
 · split
   · exact List.length_set
   · rfl
 · rfl
theorem fold_len (xs : List CellS) : ∀ l : List CellS, (xs.foldl put1C l).length = l.length := by
 induction xs with
 | nil => intro l; rfl
 | cons x xs ih => intro l; rw [List.foldl_cons, ih, put1C_len]
theorem MirS.tell_len {m : MirS} (h : m.cells.length = 32) (life : Int) (xs : List CellS) : (m.tell life xs).2.cells.length = 32 := by
 unfold MirS.tell
 repeat' split
 all_goals first | exact h | skip
 all_goals
   simp only [fold_len]
   first | exact h | exact emptyCells_len
theorem encM_len {m : MirS} (h : m.cells.length = 32) : (encM m).length = 321 := by
 unfold encM
 rw [List.length_cons, flat_len codCell, h]

theorem flat_take (xs : List CellS) : (xs.flatMap encCell).take (xs.length * 10) = xs.flatMap encCell := List.take_of_length_le (by rw [flat_len codCell]; exact Nat.le_refl _)

section
variable {w : World} {b : Nat} {m : MirS}
theorem mir_slc (hb : Blk w b 340 (encM m)) (hm : m.cells.length = 32) : Slc w 10 encCell (fun _ => True) (some ⟨b, 1, none⟩) 32 m.cells :=
 Slc.of_blk codCell hb hm (by decide) (fun _ _ => trivial) (by simp only [encM, List.drop_succ_cons, List.drop_zero]; exact flat_take _)

theorem mir_cell {v : Value} {k j o : Nat} {c : CellS} (hc : m.cells[k]? = some c) (hv : (encCell c)[j]? = some v) (ho : o = 1 + (k * 10 + j)) : (encM m)[o]? = some v := by
 subst ho
 rw [Nat.add_comm 1]
 exact flat_get codCell hc hv
theorem mir_over {vs : List Value} {k j o : Nat} {c c' : CellS} (hc : m.cells[k]? = some c) (hn : j + vs.length ≤ 10) (hy : over (encCell c) j vs = encCell c') (ho : o = 1 + (k * 10 + j)) : over (encM m) o vs = encM ⟨m.life, m.cells.set k c'⟩ := by
 subst ho
 rw [Nat.add_comm 1]
 unfold encM
 rw [over_cons, flat_over codCell hc hn hy]

theorem clear_build (life : Int) (w : World) : (Instr.build 340 #[(0, .int .i64 life)]).run Tryz.prog w = .ok (.agg (encM ⟨life, List.replicate 32 ⟨0, 0, noFlow⟩⟩).toArray) w := by kernel_rfl
theorem new_build (w : World) : (Instr.build 340 #[]).run Tryz.prog w = .ok (.agg (encM ⟨0, List.replicate 32 ⟨0, 0, noFlow⟩⟩).toArray) w := by kernel_rfl

def partCells (k : Nat) : List CellS := (List.range k).map (fun (i : Nat) => (⟨(i : Int), 0, noFlow⟩ : CellS)) ++ List.replicate (32 - k) ⟨0, 0, noFlow⟩
theorem partCells_len {k : Nat} (h : k ≤ 32) : (partCells k).length = 32 := by simp [partCells]; omega
theorem partCells_at {k : Nat} (h : k < 32) : (partCells k)[k]? = some ⟨0, 0, noFlow⟩ := by
 unfold partCells
 rw [List.getElem?_append_right (by simp), List.getElem?_replicate]
 simp
 omega
theorem partCells_set {k : Nat} (h : k < 32) : (partCells k).set k ⟨(k : Int), 0, noFlow⟩ = partCells (k + 1) := by
 unfold partCells
 rw [List.set_append_right _ _ (by simp), List.range_succ, List.map_append, List.append_assoc]
 congr 1
 rw [show 32 - k = (32 - (k + 1)) + 1 by omega, List.replicate_succ]
 simp

theorem partCells_full : partCells 32 = emptyCells := by simp [partCells, emptyCells]

theorem clear_ok (life : Int) (hb : Blk w b 340 (encM m)) (hm : m.cells.length = 32) :
   CallC Tryz.prog 223 #[.pointer (some ⟨b, 0, none⟩), .int .i64 life] w fun v w' => Ext (· = b) w w' ∧ Blk w' b 340 (encM ⟨life, emptyCells⟩) := by
 obtain ⟨V, hV, hl, h1, hbld⟩ : ∃ V : List Value, V = encM ⟨life, partCells 0⟩ ∧ V.length = 321 ∧ V.all isOne = true ∧ ∀ w, (Instr.build 340 #[(0, .int .i64 life)]).run Tryz.prog w = .ok (.agg V.toArray) w := ⟨_, rfl, encM_len (by simp [partCells]), by unfold encM; rw [List.all_cons, flat_one codCell]; rfl, clear_build life⟩
 refine fn_intro tabOk Tryz.func223 (by kernel_rfl) rfl Tryz.ntmps223 (lbO rfl) ?_
 have hS := (St.start w (· = b)).add (blk_local b _ _) hb (by simp [blk]; exact hb.lt) (by simp)
 refine eSeq ?_
 refine eReg ?_
 refine sMov (d := 5) rfl rfl ?_
 refine sMov (d := 6) rfl rfl ?_
 refine sBuild (d := 7) rfl (fun k h => h) hbld rfl ?_
 refine sNil (d := 8) rfl rfl ?_
 refine sSt (v := .agg V.toArray) rfl rfl rfl (by simp [cellsL, hl]) ?_
 refine hS.st 0 rfl (by rw [encM_len hm]; simp [cellsL, hl]) (by simpa [cellsL] using h1) (fun w' hS => ?_)
 have ho : over (encM m) 0 (cellsL (.agg V.toArray)) = encM ⟨life, partCells 0⟩ := by
   rw [over_whole (by rw [encM_len hm]; simp [cellsL, hl])]
   simp [cellsL, hV]
 replace hS : St w (· = b) w' [blk b 340 (encM ⟨life, partCells 0⟩)] := by rw [← ho]; exact hS
 clear ho hV hl h1 hbld
 refine eNil ?_
 conv=>whnf
 refine loopR tabOk (fun σ w' q => ∃ k : Nat, σ = [(9, .int .i64 k), (0, .pointer (some ⟨b, 0, none⟩))] ∧ q = 32 - k ∧ k ≤ 32 ∧ St w (· = b) w' [blk b 340 (encM ⟨life, partCells k⟩)])
   (σ' := [(9, .int .i64 ((0 : Nat) : Int)), (0, .pointer (some ⟨b, 0, none⟩))]) (n := 32) ⟨rfl, rfl, trivial⟩ ⟨0, rfl, rfl, Nat.zero_le _, hS⟩ ?_
 clear hS
 rintro _ w1 q ⟨k, rfl, rfl, hk, hS⟩
 conv=>whnf
 refine brD (fun h3 => ?_) (fun h3 => ?_)
 · have hk : k < 32 := by omega
   have hc := partCells_at hk
   conv=>whnf
   refine ixO ?_
   conv=>whnf
   refine hS.st 0 rfl (by rw [encM_len (partCells_len (by omega))]; simp [cellsL]; omega) rfl (fun w' hS => ?_)
   have ho : over (encM ⟨life, partCells k⟩) (0 + 1 + Int.toNat (k : Int) * 10 + 0) [.int .i64 (k : Int)] = encM ⟨life, partCells (k + 1)⟩ := by
     rw [mir_over (k := k) (j := 0) (c' := ⟨(k : Int), 0, noFlow⟩) hc (by simp) rfl (by simp <;> omega)]
     simp only [partCells_set hk]
   replace hS : St w (· = b) w' [blk b 340 (encM ⟨life, partCells (k + 1)⟩)] := by rw [← ho]; exact hS
   clear ho
   conv=>whnf
   refine rgO ?_
   conv=>whnf
   refine LoopE.mk ⟨_, [(9, .int .i64 ((k + 1 : Nat) : Int)), (0, _)], ?_, ⟨rfl, rfl, trivial⟩, ⟨k + 1, rfl, rfl, by omega, hS⟩⟩
   omega
 · obtain rfl : k = 32 := by omega
   rw [partCells_full] at hS
   repeat' ((conv => whnf); first | refine RetC.mk ?_ | refine nzO ?_ | refine rgO ?_ | refine ixO ?_ | (first|apply brD|apply brND|apply brN|apply brI) <;> (intro))
   exact ⟨hS.ext, hS.blk 0 rfl⟩

theorem new_ok (w : World) : CallC Tryz.prog 131 #[] w fun v w' => ∃ b, v = .pointer (some ⟨b, 0, none⟩) ∧ w.heap.size ≤ b ∧ Ext No w w' ∧ Blk w' b 340 (encM ⟨0, emptyCells⟩) := by
 obtain ⟨V, hV, hl, h1, hbld⟩ : ∃ V : List Value, V = encM ⟨0, partCells 0⟩ ∧ V.length = 321 ∧ V.all isOne = true ∧ ∀ w, (Instr.build 340 #[]).run Tryz.prog w = .ok (.agg V.toArray) w := ⟨_, rfl, encM_len (by simp [partCells]), by unfold encM; rw [List.all_cons, flat_one codCell]; rfl, new_build⟩
 refine fn_intro tabOk Tryz.func131 (by kernel_rfl) rfl Tryz.ntmps131 (lbO rfl) ?_
 have hS := St.start w No
 refine eSeq ?_
 refine eReg ?_
 refine sAsg (d := 0) rfl rfl ?_
 refine eNil ?_
 refine eNext ?_
 refine eSeq ?_
 refine eReg ?_
 refine sBuild (d := 2) rfl (fun k h => h) hbld rfl ?_
 refine sBox (d := 3) rfl rfl ?_
 refine hS.new (fun b w' hb hS => ?_)
 have ho : cellsL (.agg V.toArray) = encM ⟨0, partCells 0⟩ := by simp [cellsL, hV]
 rw [ho] at hS
 clear ho hV hl h1 hbld
 refine sAsg (d := 1) rfl rfl ?_
 refine eNil ?_
 conv=>whnf
 refine (clear_ok 0 (hS.blk 0 rfl) (partCells_len (by omega))).mono ?_
 rintro v w' ⟨hx, hB⟩
 replace hS := hS.upd 0 rfl hx (fun c hc => by subst hc; exact List.mem_singleton.2 rfl) (blk_local _ _ _) hB (fun c hc => .inl hc)
 repeat' ((conv => whnf); first | refine RetC.mk ?_ | refine nzO ?_ | refine rgO ?_ | refine ixO ?_ | (first|apply brD|apply brND|apply brN|apply brI) <;> (intro))
 exact ⟨b, rfl, hb, hS.ext, hS.blk 0 rfl⟩

theorem clone_ok {G : CellS → Prop} {a : Option Addr} {n c : Nat} {xs : List CellS} (hx : Slc w 10 encCell G a n xs) (hn : n ≤ 1000) (ha : a.isSome = true) :
   CallC Tryz.prog 304 #[.slice a n c] w fun v w' => ∃ a' c', v = .slice a' n c' ∧ Ext No w w' ∧ (ownL 209 10 encCell v xs).holds w' ∧ ∀ g, v.ownBlock = some g → w.heap.size ≤ g ∧ g < w'.heap.size := by
 refine fn_intro tabOk Tryz.func304 (by kernel_rfl) rfl Tryz.ntmps304 (lbO rfl) ?_
 have hS := St.start w No
 conv=>whnf
 refine brF (by cases a <;> simp_all) ?_
 conv=>whnf
 refine hS.lit0 Tryz.underlying131 (sz := 10) (by kernel_rfl) (fun b0 w1 hS => ?_)
 conv=>whnf
 refine hS.appS codCell 0 (xs := []) Tryz.underlying131 (bytes := 80) (by kernel_rfl) (z := .agg (encCell ⟨0, 0, noFlow⟩).toArray) (by kernel_rfl) rfl rfl (hx.no hS.ext) (by unfold maxLen; simp; omega) (by simp; omega) (fun a' c' w' hS => ?_)
 repeat' ((conv => whnf); first | refine RetC.mk ?_ | refine nzO ?_ | refine rgO ?_ | refine ixO ?_ | (first|apply brD|apply brND|apply brN|apply brI) <;> (intro))
 have hn0 : ([] : List CellS).length + n = n := by simp
 rw [hn0] at hS ⊢
 exact ⟨a', c', rfl, hS.ext, hS.get 0 rfl, fun g hg => by
   rcases hS.may _ (List.mem_of_getElem? (i := 0) rfl) g (by simpa [ownL, own] using hg) with ⟨h1 | h1, h2⟩
   · exact h1.elim
   · exact ⟨h1, h2⟩⟩

theorem cells_ok (hb : Blk w b 340 (encM m)) (hm : m.cells.length = 32) :
   CallC Tryz.prog 244 #[.pointer (some ⟨b, 0, none⟩)] w fun v w' => ∃ a' c', v = .slice a' 32 c' ∧ Ext No w w' ∧ (ownL 209 10 encCell v m.cells).holds w' ∧ ∀ g, v.ownBlock = some g → w.heap.size ≤ g ∧ g < w'.heap.size := by
 refine fn_intro tabOk Tryz.func244 (by kernel_rfl) rfl Tryz.ntmps244 (lbO rfl) ?_
 conv=>whnf
 refine (clone_ok (mir_slc hb hm) (by decide) rfl).mono ?_
 rintro v w' ⟨a', c', rfl, h⟩
 repeat' ((conv => whnf); first | refine RetC.mk ?_ | refine nzO ?_ | refine rgO ?_ | refine ixO ?_ | (first|apply brD|apply brND|apply brN|apply brI) <;> (intro))
 exact ⟨a', c', rfl, h⟩

theorem tellF_ok (c : CellS) (w : World) : CallC Tryz.prog 331 ([Value.agg (encCell c).toArray] ++ []).toArray w fun v w' => v = .bool (badSlot c) ∧ Ext No w w' := by
 refine fn_intro tabOk Tryz.func331 (by kernel_rfl) rfl Tryz.ntmps331 (lbO rfl) ?_
 have hS := St.start w No
 conv=>whnf
 refine hS.new (fun b w' hb hS => ?_)
 repeat' ((conv => whnf); first | refine RetC.mk ?_ | refine nzO ?_ | refine rgO ?_ | refine ixO ?_ | refine hS.ld 0 rfl rfl ?_ | (first|apply brD|apply brND|apply brN|apply brI) <;> (intro))
 all_goals refine ⟨?_, hS.ext⟩
 all_goals simp_all [badSlot]
 all_goals omega

theorem put1C_at {l : List CellS} {c d : CellS} (h : l[c.slot.toNat]? = some d) : put1C l c = if c.ver > d.ver then l.set c.slot.toNat c else l := by
 unfold put1C
 rw [h]
theorem fold_step {xs l : List CellS} {k : Nat} {x : CellS} (hx : xs[k]? = some x) : (xs.take (k + 1)).foldl put1C l = put1C ((xs.take k).foldl put1C l) x := by
 rw [List.take_add_one, hx, List.foldl_append]
 rfl

theorem tell_ok {E : Nat → Addr} {q : Nat} {G : CellS → Prop} {a : Option Addr} {n c : Nat} {xs : List CellS} (life : Int) (hb : Blk w b 340 (encM m)) (hm : m.cells.length = 32) (hE : Errs w E q [2, 10]) (hq : q ≤ b) (hx : Slc w 10 encCell G a n xs) (hsrc : 0 < n → ∀ b0 o0, a = some ⟨b0, o0, none⟩ → b0 ≠ b) :
   CallC Tryz.prog 300 #[.pointer (some ⟨b, 0, none⟩), .int .i64 life, .slice a n c] w fun v w' => v = errV E (m.tell life xs).1 ∧ Ext (· = b) w w' ∧ Blk w' b 340 (encM (m.tell life xs).2) := by
 have hmax := hx.max
 have hlen := hx.len
 have hbw := hb.lt
 refine fn_intro tabOk Tryz.func300 (by kernel_rfl) rfl Tryz.ntmps300 (lbO rfl) ?_
 have hS := (St.start w (· = b)).add (blk_local b _ _) hb (by simp [blk]; exact hb.lt) (by simp)
 conv=>whnf
 refine (containsFunc_ok badSlot _ [] hx (fun x _ _ w' _ => tellF_ok x w')).mono ?_
 rintro v w' ⟨rfl, hx'⟩
 replace hS := hS.no hx'
 clear hx'
 cases hany : xs.any badSlot
 all_goals repeat' ((conv => whnf); first | refine RetC.mk ?_ | refine nzO ?_ | refine rgO ?_ | refine ixO ?_ | refine hS.ldr (hE.at_ 2 rfl) (hE.ne 2 rfl hq) ?_ | refine hS.ldr (hE.at_ 10 rfl) (hE.ne 10 rfl hq) ?_ | refine hS.ld 0 rfl rfl ?_ | (refine (clear_ok life (hS.blk 0 rfl) hm).mono ?_; rintro v w' ⟨hx', hB⟩; replace hS := hS.upd 0 rfl hx' (fun c hc => by subst hc; exact List.mem_singleton.2 rfl) (blk_local _ _ _) hB (fun c hc => .inl hc)) | (first|apply brD|apply brND|apply brN|apply brI) <;> (intro))
 all_goals first | (rw [show m.tell life xs = (2, m) from if_pos (by first | (left; assumption) | (right; left; omega) | (right; right; assumption))]; exact ⟨rfl, hS.ext, hS.blk 0 rfl⟩) | skip
 · rename_i h1 h2 h3
   rw [show m.tell life xs = (10, m) by
     unfold MirS.tell
     rw [if_neg (by rintro (h | h | h); omega; omega; simp [hany] at h), if_pos h3]]
   exact ⟨rfl, hS.ext, hS.blk 0 rfl⟩
 · have hgood : ∀ x ∈ xs, 0 ≤ x.slot ∧ x.slot < 32 := fun x hx => by
     have := List.any_eq_false.1 hany x hx
     simp [badSlot] at this
     omega
   have htell : m.tell life xs = (0, ⟨life, xs.foldl put1C emptyCells⟩) := by
     unfold MirS.tell
     rw [if_neg (by rintro (h | h | h); omega; omega; simp [hany] at h), if_neg (show ¬ life < m.life by assumption), if_pos (show life > m.life by assumption), if_pos (show life > m.life by assumption)]
   have hl1 : ((⟨life, emptyCells⟩ : MirS)).cells.length = 32 := by first | exact hm | exact emptyCells_len
   refine loopR tabOk (fun σ w' q => ∃ k : Nat, σ = [(44, .int .i64 k), (43, .int .i64 n), (42, .slice a n c), (0, .pointer (some ⟨b, 0, none⟩))] ∧ q = n - k ∧ k ≤ n ∧ St w (· = b) w' [blk b 340 (encM ⟨((⟨life, emptyCells⟩ : MirS)).life, (xs.take k).foldl put1C ((⟨life, emptyCells⟩ : MirS)).cells⟩)])
     (σ' := [(44, .int .i64 ((0 : Nat) : Int)), (43, .int .i64 n), (42, .slice a n c), (0, .pointer (some ⟨b, 0, none⟩))]) (n := n) ⟨rfl, rfl, rfl, rfl, trivial⟩ ⟨0, rfl, rfl, Nat.zero_le _, hS⟩ ?_
   clear hS
   rintro _ w1 q ⟨k, rfl, rfl, hk, hS⟩
   conv=>whnf
   refine brD (fun h3 => ?_) (fun h3 => ?_)
   · obtain ⟨b0, o0, x, hxk, _, rfl, hb0, hc⟩ := hx.at (k := k) (by omega)
     have hnb : ¬ b0 = b := hsrc (by omega) b0 o0 rfl
     have hin := hgood x (List.mem_of_getElem? hxk)
     have hlk : ((xs.take k).foldl put1C ((⟨life, emptyCells⟩ : MirS)).cells).length = 32 := by rw [fold_len, hl1]
     have hstep := fold_step (l := ((⟨life, emptyCells⟩ : MirS)).cells) hxk
     generalize hL : (xs.take k).foldl put1C ((⟨life, emptyCells⟩ : MirS)).cells = L at hS hlk hstep
     obtain ⟨d, hd⟩ : ∃ d, L[x.slot.toNat]? = some d := ⟨_, List.getElem?_eq_getElem (by omega)⟩
     rw [put1C_at hd] at hstep
     conv=>whnf
     refine ixO ?_
     conv=>whnf
     refine hS.lar (l := encCell x) rfl hc hnb ?_
     conv=>whnf
     refine hS.new (fun bc w' hbc hS => ?_)
     have hbcb : ¬ bc = b := by omega
     conv=>whnf
     refine hS.st 1 rfl (lbO rfl) rfl (fun w' hS => ?_)
     replace hS : St w (· = b) w' [blk b 340 (encM ⟨((⟨life, emptyCells⟩ : MirS)).life, L⟩), blk bc 209 (encCell x)] := hS
     conv=>whnf
     (refine drawS tabOk mixed [] No [0, 1, 2, 3, 4, 5, 6, 7, 8, 9, 10] (by kernel_rfl) ?_; rintro w1 rfl; replace hS := hS.drew)
     repeat' ((conv => whnf); first | refine RetC.mk ?_ | refine nzO ?_ | refine rgO ?_ | refine ixO ?_ | refine hS.ldF 1 rfl rfl id ?_ | refine hS.ldF 0 rfl (mir_cell (k := x.slot.toNat) (j := 1) hd rfl (by simp <;> omega)) id ?_ | (refine drawS tabOk mixed [] ((· = b)) [0, 1, 2, 3, 4, 5, 6, 7] (by kernel_rfl) ?_; rintro w1 rfl; replace hS := hS.drew) | (first|apply brD|apply brND|apply brN|apply brI) <;> (intro))
     · rename_i hv
       rw [if_pos hv] at hstep
       repeat' ((conv => whnf); first | refine ixO ?_ | refine hS.ldF 1 rfl rfl hbcb ?_ | refine hS.laF 1 rfl (l := encCell x) rfl rfl hbcb ?_)
       refine hS.stX 0 rfl (by rw [encM_len hlk]; simp [cellsL, encCell]; omega) rfl (fun w' hx' hS => ?_)
       refine KeepC.mk hx' ?_
       replace hS := hS.keep 1
       have ho : over (encM ⟨((⟨life, emptyCells⟩ : MirS)).life, L⟩) (0 + 1 + x.slot.toNat * 10) (cellsL (.agg (encCell x).toArray)) = encM ⟨((⟨life, emptyCells⟩ : MirS)).life, (xs.take (k + 1)).foldl put1C ((⟨life, emptyCells⟩ : MirS)).cells⟩ := by
         rw [mir_over (k := x.slot.toNat) (j := 0) (c' := x) hd (by simp [cellsL, encCell]) rfl (by simp <;> omega), hstep]
       replace hS : St w (· = b) w' [blk b 340 (encM ⟨((⟨life, emptyCells⟩ : MirS)).life, (xs.take (k + 1)).foldl put1C ((⟨life, emptyCells⟩ : MirS)).cells⟩)] := by rw [← ho]; exact hS
       conv=>whnf
       refine rgO ?_
       conv=>whnf
       refine LoopE.mk ⟨_, [(44, .int .i64 ((k + 1 : Nat) : Int)), (43, _), (42, _), (0, _)], ?_, ⟨rfl, rfl, rfl, rfl, trivial⟩, ⟨k + 1, rfl, rfl, by omega, hS⟩⟩
       omega
     · rename_i hv
       rw [if_neg hv] at hstep
       replace hS := hS.keep 1
       refine LoopE.mk ⟨_, [(44, .int .i64 ((k + 1 : Nat) : Int)), (43, _), (42, _), (0, _)], ?_, ⟨rfl, rfl, rfl, rfl, trivial⟩, ⟨k + 1, rfl, rfl, by omega, by rw [hstep]; exact hS⟩⟩
       omega
   · obtain rfl : k = n := by omega
     rw [List.take_of_length_le (by omega)] at hS
     repeat' ((conv => whnf); first | refine RetC.mk ?_ | refine nzO ?_ | refine rgO ?_ | refine ixO ?_ | (first|apply brD|apply brND|apply brN|apply brI) <;> (intro))
     rw [htell]
     exact ⟨rfl, hS.ext, hS.blk 0 rfl⟩
 · have hgood : ∀ x ∈ xs, 0 ≤ x.slot ∧ x.slot < 32 := fun x hx => by
     have := List.any_eq_false.1 hany x hx
     simp [badSlot] at this
     omega
   have htell : m.tell life xs = (0, ⟨m.life, xs.foldl put1C m.cells⟩) := by
     unfold MirS.tell
     rw [if_neg (by rintro (h | h | h); omega; omega; simp [hany] at h), if_neg (show ¬ life < m.life by assumption), if_neg (show ¬ life > m.life by assumption), if_neg (show ¬ life > m.life by assumption)]
   have hl1 : (m).cells.length = 32 := by first | exact hm | exact emptyCells_len
   refine loopR tabOk (fun σ w' q => ∃ k : Nat, σ = [(44, .int .i64 k), (43, .int .i64 n), (42, .slice a n c), (0, .pointer (some ⟨b, 0, none⟩))] ∧ q = n - k ∧ k ≤ n ∧ St w (· = b) w' [blk b 340 (encM ⟨(m).life, (xs.take k).foldl put1C (m).cells⟩)])
     (σ' := [(44, .int .i64 ((0 : Nat) : Int)), (43, .int .i64 n), (42, .slice a n c), (0, .pointer (some ⟨b, 0, none⟩))]) (n := n) ⟨rfl, rfl, rfl, rfl, trivial⟩ ⟨0, rfl, rfl, Nat.zero_le _, hS⟩ ?_
   clear hS
   rintro _ w1 q ⟨k, rfl, rfl, hk, hS⟩
   conv=>whnf
   refine brD (fun h3 => ?_) (fun h3 => ?_)
   · obtain ⟨b0, o0, x, hxk, _, rfl, hb0, hc⟩ := hx.at (k := k) (by omega)
     have hnb : ¬ b0 = b := hsrc (by omega) b0 o0 rfl
     have hin := hgood x (List.mem_of_getElem? hxk)
     have hlk : ((xs.take k).foldl put1C (m).cells).length = 32 := by rw [fold_len, hl1]
     have hstep := fold_step (l := (m).cells) hxk
     generalize hL : (xs.take k).foldl put1C (m).cells = L at hS hlk hstep
     obtain ⟨d, hd⟩ : ∃ d, L[x.slot.toNat]? = some d := ⟨_, List.getElem?_eq_getElem (by omega)⟩
     rw [put1C_at hd] at hstep
     conv=>whnf
     refine ixO ?_
     conv=>whnf
     refine hS.lar (l := encCell x) rfl hc hnb ?_
     conv=>whnf
     refine hS.new (fun bc w' hbc hS => ?_)
     have hbcb : ¬ bc = b := by omega
     conv=>whnf
     refine hS.st 1 rfl (lbO rfl) rfl (fun w' hS => ?_)
     replace hS : St w (· = b) w' [blk b 340 (encM ⟨(m).life, L⟩), blk bc 209 (encCell x)] := hS
     conv=>whnf
     (refine drawS tabOk mixed [] No [0, 1, 2, 3, 4, 5, 6, 7, 8, 9, 10] (by kernel_rfl) ?_; rintro w1 rfl; replace hS := hS.drew)
     repeat' ((conv => whnf); first | refine RetC.mk ?_ | refine nzO ?_ | refine rgO ?_ | refine ixO ?_ | refine hS.ldF 1 rfl rfl id ?_ | refine hS.ldF 0 rfl (mir_cell (k := x.slot.toNat) (j := 1) hd rfl (by simp <;> omega)) id ?_ | (refine drawS tabOk mixed [] ((· = b)) [0, 1, 2, 3, 4, 5, 6, 7] (by kernel_rfl) ?_; rintro w1 rfl; replace hS := hS.drew) | (first|apply brD|apply brND|apply brN|apply brI) <;> (intro))
     · rename_i hv
       rw [if_pos hv] at hstep
       repeat' ((conv => whnf); first | refine ixO ?_ | refine hS.ldF 1 rfl rfl hbcb ?_ | refine hS.laF 1 rfl (l := encCell x) rfl rfl hbcb ?_)
       refine hS.stX 0 rfl (by rw [encM_len hlk]; simp [cellsL, encCell]; omega) rfl (fun w' hx' hS => ?_)
       refine KeepC.mk hx' ?_
       replace hS := hS.keep 1
       have ho : over (encM ⟨(m).life, L⟩) (0 + 1 + x.slot.toNat * 10) (cellsL (.agg (encCell x).toArray)) = encM ⟨(m).life, (xs.take (k + 1)).foldl put1C (m).cells⟩ := by
         rw [mir_over (k := x.slot.toNat) (j := 0) (c' := x) hd (by simp [cellsL, encCell]) rfl (by simp <;> omega), hstep]
       replace hS : St w (· = b) w' [blk b 340 (encM ⟨(m).life, (xs.take (k + 1)).foldl put1C (m).cells⟩)] := by rw [← ho]; exact hS
       conv=>whnf
       refine rgO ?_
       conv=>whnf
       refine LoopE.mk ⟨_, [(44, .int .i64 ((k + 1 : Nat) : Int)), (43, _), (42, _), (0, _)], ?_, ⟨rfl, rfl, rfl, rfl, trivial⟩, ⟨k + 1, rfl, rfl, by omega, hS⟩⟩
       omega
     · rename_i hv
       rw [if_neg hv] at hstep
       replace hS := hS.keep 1
       refine LoopE.mk ⟨_, [(44, .int .i64 ((k + 1 : Nat) : Int)), (43, _), (42, _), (0, _)], ?_, ⟨rfl, rfl, rfl, rfl, trivial⟩, ⟨k + 1, rfl, rfl, by omega, by rw [hstep]; exact hS⟩⟩
       omega
   · obtain rfl : k = n := by omega
     rw [List.take_of_length_le (by omega)] at hS
     repeat' ((conv => whnf); first | refine RetC.mk ?_ | refine nzO ?_ | refine rgO ?_ | refine ixO ?_ | (first|apply brD|apply brND|apply brN|apply brI) <;> (intro))
     rw [htell]
     exact ⟨rfl, hS.ext, hS.blk 0 rfl⟩

theorem flowsOf_step {l : List CellS} {k : Nat} {x : CellS} (hx : l[k]? = some x) : flowsOf (l.take (k + 1)) = flowsOf (l.take k) ++ (if x.f.proto ≠ 0 then [x.f] else []) := by
 rw [List.take_add_one, hx]
 unfold flowsOf
 rw [List.filter_append, List.map_append]
 congr 1
 by_cases h : x.f.proto = 0 <;> simp [h]
theorem flowsOf_len (l : List CellS) : (flowsOf l).length ≤ l.length := by
 unfold flowsOf
 rw [List.length_map]
 exact List.length_filter_le _ _

theorem flows_ok (hb : Blk w b 340 (encM m)) (hm : m.cells.length = 32) :
   CallC Tryz.prog 341 #[.pointer (some ⟨b, 0, none⟩)] w fun v w' => ∃ a' c', v = .slice a' (flowsOf m.cells).length c' ∧ Ext No w w' ∧ (ownL 207 8 encFlow v (flowsOf m.cells)).holds w' ∧ Fresh w w' v := by
 refine fn_intro tabOk Tryz.func341 (by kernel_rfl) rfl Tryz.ntmps341 (lbO rfl) ?_
 have hS := St.start w No
 have hl0 : CellsAt w b 1 (m.cells.flatMap encCell) := hb.cells (by rw [flat_len codCell]; simp only [encM, List.drop_succ_cons, List.drop_zero]; exact flat_take _)
 conv=>whnf
 refine hS.lar (l := m.cells.flatMap encCell) (by rw [flat_len codCell, hm]) hl0 id ?_
 have hS := hS.add (ownL_local (e := 207) (enc := encFlow) (sz := 8) (v := .slice none 0 0) (xs := [])) (own_nil _ _ _) (by simp [ownL, own, Value.ownBlock]) (by simp [ownL, own, Value.ownBlock])
 conv=>whnf
 refine loopR tabOk (fun σ w' q => ∃ (k : Nat) (v : Value), σ = [(10, .int .i64 k), (9, .agg (m.cells.flatMap encCell).toArray), (3, v)] ∧ q = 32 - k ∧ k ≤ 32 ∧ (∃ a' c', v = .slice a' (flowsOf (m.cells.take k)).length c') ∧ St w No w' [ownL 207 8 encFlow v (flowsOf (m.cells.take k))])
   (σ' := [(10, .int .i64 ((0 : Nat) : Int)), (9, .agg (m.cells.flatMap encCell).toArray), (3, .slice none 0 0)]) (n := 32) ⟨rfl, rfl, rfl, trivial⟩ ⟨0, _, rfl, rfl, Nat.zero_le _, ⟨none, 0, rfl⟩, hS⟩ ?_
 clear hS
 rintro _ w1 q ⟨k, _, rfl, rfl, hk, ⟨a', c', rfl⟩, hS⟩
 conv=>whnf
 refine brD (fun h3 => ?_) (fun h3 => ?_)
 · obtain ⟨x, hxk⟩ : ∃ x, m.cells[k]? = some x := ⟨_, List.getElem?_eq_getElem (by omega)⟩
   have hstep := flowsOf_step hxk
   have hlen := flowsOf_len (m.cells.take k)
   rw [List.length_take] at hlen
   conv=>whnf
   refine PureC.of (index_run codCell (k := k) (by rw [hm]; exact Tryz.underlying328) (by kernel_rfl) ⟨_, Tryz.underlying209⟩ (by kernel_rfl) (by kernel_rfl) hxk rfl) ?_
   conv=>whnf
   refine hS.new (fun bc w' hbc hS => ?_)
   conv=>whnf
   refine hS.st 1 rfl (lbO rfl) rfl (fun w' hS => ?_)
   replace hS : St w No w' [ownL 207 8 encFlow (.slice a' (flowsOf (m.cells.take k)).length c') (flowsOf (m.cells.take k)), blk bc 209 (encCell x)] := hS
   conv=>whnf
   refine hS.ld 1 rfl rfl ?_
   conv=>whnf
   refine brND (fun h4 => ?_) (fun h4 => ?_)
   · rw [if_pos h4] at hstep
     conv=>whnf
     refine hS.la 1 rfl (l := encFlow x.f) rfl rfl ?_
     conv=>whnf
     refine hS.lit (cs := encFlow x.f) Tryz.underlying129 (sz := 8) (by kernel_rfl) (z := .agg (encFlow noFlow).toArray) (by kernel_rfl) rfl rfl (by rfl) (fun bl w' hbl hS => ?_)
     conv=>whnf
     refine hS.appS codFlow 0 (ys := [x.f]) (G := fun _ => True) Tryz.underlying129 (bytes := 64) (by kernel_rfl) (z := .agg (encFlow noFlow).toArray) (by kernel_rfl) rfl rfl (Slc.of_blk codFlow (hS.blk 2 rfl) rfl (by decide) (fun _ _ => trivial) rfl) (by unfold maxLen; omega) (by omega) (fun a2 c2 w' hS => ?_)
     replace hS := hS.keep 1
     rw [← hstep] at hS
     have hl2 : (flowsOf (m.cells.take k)).length + 1 = (flowsOf (m.cells.take (k + 1))).length := by rw [hstep]; simp
     rw [hl2] at hS ⊢
     conv=>whnf
     refine rgO ?_
     conv=>whnf
     refine LoopE.mk ⟨_, [(10, .int .i64 ((k + 1 : Nat) : Int)), (9, _), (3, _)], ?_, ⟨rfl, rfl, rfl, trivial⟩, ⟨k + 1, _, rfl, rfl, by omega, ⟨a2, c2, rfl⟩, hS⟩⟩
     omega
   · rw [if_neg (fun h => h h4), List.append_nil] at hstep
     replace hS := hS.keep 1
     conv=>whnf
     refine rgO ?_
     conv=>whnf
     refine LoopE.mk ⟨_, [(10, .int .i64 ((k + 1 : Nat) : Int)), (9, _), (3, _)], ?_, ⟨rfl, rfl, rfl, trivial⟩, ⟨k + 1, _, rfl, rfl, by omega, ⟨a', c', by rw [hstep]⟩, by rw [hstep]; exact hS⟩⟩
     omega
 · obtain rfl : k = 32 := by omega
   rw [List.take_of_length_le (by omega)] at hS ⊢
   repeat' ((conv => whnf); first | refine RetC.mk ?_ | refine nzO ?_ | refine rgO ?_ | refine ixO ?_ | (first|apply brD|apply brND|apply brN|apply brI) <;> (intro))
   exact ⟨a', c', rfl, hS.ext, hS.get 0 rfl, hS.freshAt 0 rfl⟩
end
end Go.Proofs.YtogjajjdaoihdaaGreatDoor

namespace Go.Proofs.YtogjajjdaoihdaaGreatDoor.Ev
set_option maxRecDepth 20000
open Go

def I64 (n : Int) : Prop := -9223372036854775808 ≤ n ∧ n ≤ 9223372036854775807
def Pr.ok : Pr → Prop
 | .int n => I64 n
 | .bool _ => True
 | .str s => s.size ≤ maxLen

section
variable {P : Program} {w : World}
theorem shp_flatFs {rec_ : TypeId → Option (List PK)} {D : Nat} {cs : List Value} (IH : ∀ (t : TypeId) (ks : List PK) (cs : List Value), rec_ t = some ks → P.cellsOf t = ks.length → Shp P w D t cs → ∃ ps : List Pr, cs = ps.map Pr.v ∧ ps.map Pr.k = ks ∧ ∀ p ∈ ps, p.ok) :
   ∀ (fs : List Field) (off : Nat) (ks : List PK), flatFs P rec_ fs off = some ks → (∀ f ∈ fs, Shp P w D f.type ((cs.drop f.offset).take (P.cellsOf f.type))) → ∃ ps : List Pr, (cs.drop off).take ks.length = ps.map Pr.v ∧ ps.map Pr.k = ks ∧ ∀ p ∈ ps, p.ok := by
 intro fs
 induction fs with
 | nil =>
   intro off ks h _
   simp only [flatFs, Option.some.injEq] at h
   subst h
   exact ⟨[], by simp, rfl, by simp⟩
 | cons f r ih =>
   intro off ks h hs
   unfold flatFs at h
   split at h
   · cases h
   · rename_i hc
     simp only [Bool.and_eq_true, bne_iff_ne, ne_eq, beq_iff_eq] at hc
     obtain ⟨⟨⟨_, rfl⟩, _⟩, _⟩ := hc
     split at h
     · cases h
     · rename_i k hk
       split at h
       · cases h
       · rename_i hcs
         simp only [Bool.and_eq_true, Bool.or_eq_true, beq_iff_eq] at hcs
         obtain ⟨ks', hr, rfl⟩ := Option.map_eq_some_iff.1 h
         obtain ⟨ps, h1, h2, h3⟩ := IH f.type k _ hk hcs.1 (hs f (by simp))
         obtain ⟨qs, h4, h5, h6⟩ := ih (f.offset + k.length) ks' hr (fun g hg => hs g (by simp [hg]))
         refine ⟨ps ++ qs, ?_, by rw [List.map_append, h2, h5], ?_⟩
         · rw [hcs.1] at h1
           rw [List.length_append, List.take_add, List.drop_drop, h1, h4, List.map_append]
         · intro p hp
           rcases List.mem_append.1 hp with hp | hp
           · exact h3 p hp
           · exact h6 p hp
theorem shp_flat : ∀ (d : Nat) (D : Nat) (t : TypeId) (ks : List PK) (cs : List Value), flatK P d t = some ks → d ≤ D → P.cellsOf t = ks.length → Shp P w D t cs → ∃ ps : List Pr, cs = ps.map Pr.v ∧ ps.map Pr.k = ks ∧ ∀ p ∈ ps, p.ok := by
 intro d
 induction d with
 | zero => intro D t ks cs h; simp [flatK] at h
 | succ d ih =>
   intro D t ks cs h hD hc hs
   obtain ⟨D, rfl⟩ : ∃ D', D = D' + 1 := ⟨D - 1, by omega⟩
   unfold Shp at hs
   unfold flatK at h
   split at h
   · rename_i hu
     rw [hu] at hs
     simp only [Option.some.injEq] at h
     subst h
     obtain ⟨n, rfl, hw⟩ := hs
     refine ⟨[.int n], rfl, rfl, ?_⟩
     intro p hp
     obtain rfl := List.mem_singleton.1 hp
     have h1 : IntKind.i64.min = -9223372036854775808 := rfl
     have h2 : IntKind.i64.max = 9223372036854775807 := rfl
     simp only [Lit.wf, Bool.and_eq_true, decide_eq_true_eq] at hw
     show I64 n
     unfold I64
     omega
   · rename_i hu
     rw [hu] at hs
     simp only [Option.some.injEq] at h
     subst h
     obtain ⟨n, rfl⟩ := hs
     exact ⟨[.bool n], rfl, rfl, by intro p hp; obtain rfl := List.mem_singleton.1 hp; trivial⟩
   · rename_i hu
     rw [hu] at hs
     simp only [Option.some.injEq] at h
     subst h
     obtain ⟨n, rfl, hn⟩ := hs
     exact ⟨[.str n], rfl, rfl, by intro p hp; obtain rfl := List.mem_singleton.1 hp; exact hn⟩
   · rename_i fs hu
     rw [hu] at hs
     split at h
     · cases h
     · obtain ⟨hl, hf⟩ := hs
       obtain ⟨ps, h1, h2, h3⟩ := shp_flatFs (w := w) (D := D) (cs := cs) (fun t ks cs h hc hs => ih D t ks cs h (by omega) hc hs) fs.toList 0 ks h (fun f hf' => by
         obtain ⟨i, hi⟩ := List.mem_iff_getElem?.1 hf'
         exact hf i f (by simpa using hi))
       refine ⟨ps, ?_, h2, h3⟩
       rw [List.drop_zero, List.take_of_length_le (by omega)] at h1
       exact h1
   · cases h

theorem shp_struct {e d : Nat} {t : TypeId} {fs : Array Field} {cs : List Value} (he : e = d + 1) (hu : P.underlying t = some (.struct fs)) (h : Shp P w e t cs) : cs.length = P.cellsOf t ∧ ∀ (i : Nat) (f : Field), fs[i]? = some f → Shp P w d f.type ((cs.drop f.offset).take (P.cellsOf f.type)) := by
 subst he
 unfold Shp at h
 rw [hu] at h
 exact h
theorem shp_slice {e d : Nat} {t u : TypeId} {v : Value} (he : e = d + 1) (hu : P.underlying t = some (.slice u)) (h : Shp P w e t [v]) : ∃ a n c, v = .slice a n c := by
 subst he
 unfold Shp at h
 rw [hu] at h
 rcases h with h1 | ⟨a, n, c, h1, _⟩
 · simp only [List.cons.injEq, and_true] at h1; exact ⟨_, _, _, h1⟩
 · simp only [List.cons.injEq, and_true] at h1; exact ⟨_, _, _, h1⟩
theorem shp_slc {α : Type} {e d : Nat} {t u : TypeId} {sz : Nat} {enc : α → List Value} {G : α → Prop} {a : Option Addr} {n c : Nat} (he : e = d + 1) (hu : P.underlying t = some (.slice u)) (hc : P.cellsOf u = sz) (hsz : 0 < sz) (hd : Dec P w d u enc G) (h : Shp P w e t [.slice a n c]) : ∃ xs, Slc w sz enc G a n xs ∧ n ≤ c := by
 subst he
 exact slc_of hu hc hsz hd h
theorem kinds_cons {l : List Pr} {k : PK} {ks : List PK} (h : l.map Pr.k = k :: ks) : ∃ p r, l = p :: r ∧ p.k = k ∧ r.map Pr.k = ks := by
 cases l with
 | nil => cases h
 | cons p r =>
   simp only [List.map_cons, List.cons.injEq] at h
   exact ⟨p, r, rfl, h.1, h.2⟩
theorem kinds_nil {l : List Pr} (h : l.map Pr.k = []) : l = [] := by simpa using h
theorem k_int {p : Pr} (h : p.k = .int) : ∃ n, p = .int n := by cases p <;> simp [Pr.k] at h; exact ⟨_, rfl⟩
theorem k_bool {p : Pr} (h : p.k = .bool) : ∃ n, p = .bool n := by cases p <;> simp [Pr.k] at h; exact ⟨_, rfl⟩
end
end Go.Proofs.YtogjajjdaoihdaaGreatDoor.Ev

namespace Go.Proofs.YtogjajjdaoihdaaGreatDoor
set_option maxRecDepth 20000
open Go Ev

def CellS.Ok (c : CellS) : Prop := ∀ p ∈ c.pr, p.ok
def c5 : CellS := ⟨5, 1, ⟨1, 0, 0, 0, 0, 0, 0, 0⟩⟩
end Go.Proofs.YtogjajjdaoihdaaGreatDoor

namespace Go.Proofs.YtogjajjdaoihdaaGreatDoor
set_option maxRecDepth 20000
open Go Ev

end Go.Proofs.YtogjajjdaoihdaaGreatDoor

namespace Go.Proofs.YtogjajjdaoihdaaGreatDoor
set_option maxRecDepth 20000
open Go Ev

def fitF (pr ia ip fa fp : Int) (f : FlowS) : Bool := decide (f.proto = pr) && (decide (f.ia = ia ∧ f.ip = ip) && decide (f.fa = fa ∧ f.fp = fp))
def fitB (pr po fa fp : Int) (f : FlowS) : Bool := decide (f.proto = pr) && (decide (f.port = po) && decide (f.fa = fa ∧ f.fp = fp))
def there (p : FlowS → Bool) (c : CellS) : Bool := decide (c.f.proto ≠ 0) && p c.f
def MirS.find (T : MirS) (pr ia ip fa fp : Int) : Int := idxI (there (fitF pr ia ip fa fp)) T.cells 0
def MirS.back (T : MirS) (pr po fa fp : Int) : Int := idxI (there (fitB pr po fa fp)) T.cells 0
def atI (k : Int) : Int := if k < 0 then 0 else k

theorem pr_end (a b c d : Int) : (endPr a b = endPr c d) = (a = c ∧ b = d) := by simp [endPr]
theorem eqEnd {a b c d : Int} {k : Value → Prop} (hk : k (.bool (decide (a = c ∧ b = d)))) :
   PureC Tryz.prog (do eqGuard .eql 39 (.tmp 0) (.tmp 0) (.agg #[.int .i64 a, .int .i64 b]) (.agg #[.int .i64 c, .int .i64 d]); Go.binOp .eql 39 (.agg #[.int .i64 a, .int .i64 b]) (.agg #[.int .i64 c, .int .i64 d])) k :=
 eqS (a := endPr a b) (b := endPr c d) (ks := [.int, .int]) (by kernel_rfl) (by kernel_rfl) (by kernel_rfl) rfl rfl (by simpa only [pr_end] using hk)
section
variable {w : World} {b : Nat} {T : MirS}

theorem find1_ok (f : FlowS) (pr ia ip fa fp : Int) (p q r : Nat) (hp : w.cell? ⟨p, 0, none⟩ = some (.int .i64 pr)) (hq : CellsAt w q 0 [.int .i64 ia, .int .i64 ip]) (hr : CellsAt w r 0 [.int .i64 fa, .int .i64 fp]) :
   CallC Tryz.prog 290 ([Value.agg (encFlow f).toArray] ++ [Value.pointer (some ⟨p, 0, none⟩), .pointer (some ⟨q, 0, none⟩), .pointer (some ⟨r, 0, none⟩)]).toArray w fun v w' => v = .bool (fitF pr ia ip fa fp f) ∧ Ext No w w' := by
 refine fn_intro tabOk Tryz.func290 (by kernel_rfl) rfl Tryz.ntmps290 (lbO rfl) ?_
 have hS := St.start w No
 conv=>whnf
 refine hS.new (fun b w' hb hS => ?_)
 repeat' ((conv => whnf); first | refine RetC.mk ?_ | refine nzO ?_ | refine rgO ?_ | refine ixO ?_ | refine hS.ld 0 rfl rfl ?_ | refine hS.ldr hp id ?_ | refine hS.la 0 rfl (l := [.int .i64 f.ia, .int .i64 f.ip]) rfl rfl ?_ | refine hS.la 0 rfl (l := [.int .i64 f.fa, .int .i64 f.fp]) rfl rfl ?_ | refine hS.lar (l := [.int .i64 ia, .int .i64 ip]) rfl hq id ?_ | refine hS.lar (l := [.int .i64 fa, .int .i64 fp]) rfl hr id ?_ | refine eqEnd ?_ | (first|apply brD|apply brND|apply brN|apply brI) <;> (intro))
 all_goals refine ⟨?_, hS.ext⟩
 all_goals simp_all [fitF]
theorem back1_ok (f : FlowS) (pr po fa fp : Int) (p q r : Nat) (hp : w.cell? ⟨p, 0, none⟩ = some (.int .i64 pr)) (hq : w.cell? ⟨q, 0, none⟩ = some (.int .i64 po)) (hr : CellsAt w r 0 [.int .i64 fa, .int .i64 fp]) :
   CallC Tryz.prog 299 ([Value.agg (encFlow f).toArray] ++ [Value.pointer (some ⟨p, 0, none⟩), .pointer (some ⟨q, 0, none⟩), .pointer (some ⟨r, 0, none⟩)]).toArray w fun v w' => v = .bool (fitB pr po fa fp f) ∧ Ext No w w' := by
 refine fn_intro tabOk Tryz.func299 (by kernel_rfl) rfl Tryz.ntmps299 (lbO rfl) ?_
 have hS := St.start w No
 conv=>whnf
 refine hS.new (fun b w' hb hS => ?_)
 repeat' ((conv => whnf); first | refine RetC.mk ?_ | refine nzO ?_ | refine rgO ?_ | refine ixO ?_ | refine hS.ld 0 rfl rfl ?_ | refine hS.ldr hp id ?_ | refine hS.ldr hq id ?_ | refine hS.la 0 rfl (l := [.int .i64 f.fa, .int .i64 f.fp]) rfl rfl ?_ | refine hS.lar (l := [.int .i64 fa, .int .i64 fp]) rfl hr id ?_ | refine eqEnd ?_ | (first|apply brD|apply brND|apply brN|apply brI) <;> (intro))
 all_goals refine ⟨?_, hS.ext⟩
 all_goals simp_all [fitB]

theorem where1_ok (p : FlowS → Bool) (g bf : Nat) (caps : List Value) (c : CellS) (hf : w.cell? ⟨bf, 0, none⟩ = some (.func (.func g) #[] caps.toArray))
   (hg : ∀ f w', Ext No w w' → CallC Tryz.prog g ([Value.agg (encFlow f).toArray] ++ caps).toArray w' fun v w'' => v = .bool (p f) ∧ Ext No w' w'') :
   CallC Tryz.prog 325 ([Value.agg (encCell c).toArray] ++ [Value.pointer (some ⟨bf, 0, none⟩)]).toArray w fun v w' => v = .bool (there p c) ∧ Ext No w w' := by
 refine fn_intro tabOk Tryz.func325 (by kernel_rfl) rfl Tryz.ntmps325 (lbO rfl) ?_
 have hS := St.start w No
 conv=>whnf
 refine hS.new (fun b w' hb hS => ?_)
 conv=>whnf
 refine hS.ld 0 rfl rfl ?_
 conv=>whnf
 refine brND (fun h1 => ?_) (fun h1 => ?_)
 · (conv => whnf)
   refine hS.ldr hf id ?_
   conv=>whnf
   refine hS.la 0 rfl (l := encFlow c.f) rfl rfl ?_
   have key := hg c.f _ hS.ext
   have fin : ∀ (K : Value → World → Prop), (∀ w'', Ext No w' w'' → K (.bool (p c.f)) w'') → CallC Tryz.prog g ([Value.agg (encFlow c.f).toArray] ++ caps).toArray w' K := by
     intro K hK
     refine key.mono ?_
     rintro v w' ⟨rfl, hx'⟩
     exact hK w' hx'
   clear key
   have e : there p c = p c.f := by simp [there, h1]
   rw [e]
   cases caps
   all_goals
     conv=>whnf
     refine fin _ ?_
     intro w'' hx'
     replace hS := hS.no hx'
     repeat' ((conv => whnf); first | refine RetC.mk ?_ | refine nzO ?_ | refine rgO ?_ | refine ixO ?_ | (first|apply brD|apply brND|apply brN|apply brI) <;> (intro))
     exact ⟨rfl, hS.ext⟩
 · repeat' ((conv => whnf); first | refine RetC.mk ?_ | refine nzO ?_ | refine rgO ?_ | refine ixO ?_ | (first|apply brD|apply brND|apply brN|apply brI) <;> (intro))
   exact ⟨by simp [there, h1], hS.ext⟩

theorem tab_slc (hb : Blk w b 330 (encM T)) (hm : T.cells.length = 32) : Slc w 10 encCell (fun _ => True) (some ⟨b, 1, none⟩) 32 T.cells :=
 Slc.of_blk codCell hb hm (by decide) (fun _ _ => trivial) (by simp only [encM, List.drop_succ_cons, List.drop_zero]; exact flat_take _)

theorem where_ok (p : FlowS → Bool) (g : Nat) (caps : List Value) (hb : Blk w b 330 (encM T)) (hm : T.cells.length = 32)
   (hg : ∀ f w', Ext No w w' → CallC Tryz.prog g ([Value.agg (encFlow f).toArray] ++ caps).toArray w' fun v w'' => v = .bool (p f) ∧ Ext No w' w'') :
   CallC Tryz.prog 289 #[.pointer (some ⟨b, 0, none⟩), .func (.func g) #[] caps.toArray] w fun v w' => v = .int .i64 (idxI (there p) T.cells 0) ∧ Ext No w w' := by
 refine fn_intro tabOk Tryz.func289 (by kernel_rfl) rfl Tryz.ntmps289 (lbO rfl) ?_
 have hS := St.start w No
 conv=>whnf
 refine hS.new (fun bf w' hbf hS => ?_)
 conv=>whnf
 refine (indexFunc_ok (there p) _ [Value.pointer (some ⟨bf, 0, none⟩)] ((tab_slc hb hm).no hS.ext) (fun x _ _ w2 hx2 => where1_ok p g bf caps x (hx2.cell ((hS.blk 0 rfl).cell 0) id) fun f w3 hx3 => hg f w3 ((hS.ext.trans hx2).trans hx3))).mono ?_
 rintro v w2 ⟨rfl, hx⟩
 replace hS := hS.no hx
 repeat' ((conv => whnf); first | refine RetC.mk ?_ | refine nzO ?_ | refine rgO ?_ | refine ixO ?_ | (first|apply brD|apply brND|apply brN|apply brI) <;> (intro))
 exact ⟨rfl, hS.ext⟩

theorem found_ok (k : Int) (w : World) : CallC Tryz.prog 288 #[.int .i64 k] w fun v w' => v = .tuple #[.int .i64 (atI k), .bool (decide (0 ≤ k))] ∧ w = w' := by
 refine fn_intro tabOk Tryz.func288 (by kernel_rfl) rfl Tryz.ntmps288 (lbO rfl) ?_
 repeat' ((conv => whnf); first | refine RetC.mk ?_ | refine nzO ?_ | refine rgO ?_ | refine ixO ?_ | (first|apply brD|apply brND|apply brN|apply brI) <;> (intro))
 all_goals refine ⟨?_, rfl⟩
 all_goals unfold atI
 all_goals ((repeat' split) <;> first | rfl | (exfalso; omega) | (simp_all [over, cellsL]; done) | (simp_all [over, cellsL]; omega) | trace_state)

theorem tfind_ok (pr ia ip fa fp : Int) (hb : Blk w b 330 (encM T)) (hm : T.cells.length = 32) :
   CallC Tryz.prog 226 #[.pointer (some ⟨b, 0, none⟩), .int .i64 pr, .agg #[.int .i64 ia, .int .i64 ip], .agg #[.int .i64 fa, .int .i64 fp]] w fun v w' => v = .tuple #[.int .i64 (atI (T.find pr ia ip fa fp)), .bool (decide (0 ≤ T.find pr ia ip fa fp))] ∧ Ext No w w' := by
 refine fn_intro tabOk Tryz.func226 (by kernel_rfl) rfl Tryz.ntmps226 (lbO rfl) ?_
 have hS := St.start w No
 conv=>whnf
 refine hS.new (fun p w' _ hS => ?_)
 conv=>whnf
 refine hS.new (fun q w' _ hS => ?_)
 conv=>whnf
 refine hS.new (fun r w' _ hS => ?_)
 conv=>whnf
 refine (where_ok (fitF pr ia ip fa fp) _ [Value.pointer (some ⟨p, 0, none⟩), .pointer (some ⟨q, 0, none⟩), .pointer (some ⟨r, 0, none⟩)] (hS.ext.blk hb id) hm (fun f w2 hx2 => find1_ok f pr ia ip fa fp p q r (hx2.cell ((hS.blk 0 rfl).cell 0) id) (hx2.cells ((hS.blk 1 rfl).cells rfl) id) (hx2.cells ((hS.blk 2 rfl).cells rfl) id))).mono ?_
 rintro v w2 ⟨rfl, hx⟩
 replace hS := hS.no hx
 conv=>whnf
 refine (found_ok _ _).mono ?_
 rintro v w3 ⟨rfl, rfl⟩
 repeat' ((conv => whnf); first | refine RetC.mk ?_ | refine nzO ?_ | refine rgO ?_ | refine ixO ?_ | (first|apply brD|apply brND|apply brN|apply brI) <;> (intro))
 exact ⟨rfl, hS.ext⟩
theorem tback_ok (pr po fa fp : Int) (hb : Blk w b 330 (encM T)) (hm : T.cells.length = 32) :
   CallC Tryz.prog 230 #[.pointer (some ⟨b, 0, none⟩), .int .i64 pr, .int .i64 po, .agg #[.int .i64 fa, .int .i64 fp]] w fun v w' => v = .tuple #[.int .i64 (atI (T.back pr po fa fp)), .bool (decide (0 ≤ T.back pr po fa fp))] ∧ Ext No w w' := by
 refine fn_intro tabOk Tryz.func230 (by kernel_rfl) rfl Tryz.ntmps230 (lbO rfl) ?_
 have hS := St.start w No
 conv=>whnf
 refine hS.new (fun p w' _ hS => ?_)
 conv=>whnf
 refine hS.new (fun q w' _ hS => ?_)
 conv=>whnf
 refine hS.new (fun r w' _ hS => ?_)
 conv=>whnf
 refine (where_ok (fitB pr po fa fp) _ [Value.pointer (some ⟨p, 0, none⟩), .pointer (some ⟨q, 0, none⟩), .pointer (some ⟨r, 0, none⟩)] (hS.ext.blk hb id) hm (fun f w2 hx2 => back1_ok f pr po fa fp p q r (hx2.cell ((hS.blk 0 rfl).cell 0) id) (hx2.cell ((hS.blk 1 rfl).cell 0) id) (hx2.cells ((hS.blk 2 rfl).cells rfl) id))).mono ?_
 rintro v w2 ⟨rfl, hx⟩
 replace hS := hS.no hx
 conv=>whnf
 refine (found_ok _ _).mono ?_
 rintro v w3 ⟨rfl, rfl⟩
 repeat' ((conv => whnf); first | refine RetC.mk ?_ | refine nzO ?_ | refine rgO ?_ | refine ixO ?_ | (first|apply brD|apply brND|apply brN|apply brI) <;> (intro))
 exact ⟨rfl, hS.ext⟩

end

def proto0 (c : CellS) : Bool := decide (c.f.proto = 0)
def setF (l : List CellS) (k : Nat) (f : FlowS) : List CellS := match l[k]? with
 | some c => l.set k ⟨c.slot, c.ver + 1, f⟩
 | none => l
theorem setF_at {l : List CellS} {k : Nat} {c : CellS} (h : l[k]? = some c) (f : FlowS) : setF l k f = l.set k ⟨c.slot, c.ver + 1, f⟩ := by
 unfold setF
 rw [h]
def MirS.lay (T : MirS) (f : FlowS) : (Int × Nat) × MirS :=
 if idxI proto0 T.cells 0 < 0 then ((0, 6), T) else ((idxI proto0 T.cells 0, 0), ⟨T.life, setF T.cells (idxI proto0 T.cells 0).toNat f⟩)
def portF (T : MirS) (pr fa fp : Int) : Nat → Nat → Option Nat
 | 0, _ => none
 | n + 1, i => if T.back pr (T.life + i) fa fp < 0 then some i else portF T pr fa fp n (i + 1)
def MirS.add (T : MirS) (pr ia ip fa fp st un : Int) : (Int × Nat) × MirS :=
 if 0 ≤ T.find pr ia ip fa fp then ((0, 5), T) else match portF T pr fa fp 24 0 with
   | some i => T.lay ⟨pr, ia, ip, fa, fp, T.life + i, st, un⟩
   | none => ((0, 6), T)
def MirS.put (T : MirS) (f : FlowS) : (Int × Nat) × MirS :=
 if 0 ≤ T.find f.proto f.ia f.ip f.fa f.fp ∨ 0 ≤ T.back f.proto f.port f.fa f.fp then ((0, 5), T) else T.lay f
def MirS.flowErr (T : MirS) (k : Int) : Nat := if k < 0 ∨ 32 ≤ k then 2 else match T.cells[k.toNat]? with
 | some c => if c.f.proto = 0 then 4 else 0
 | none => 2
def flowAt (T : MirS) (k : Int) : FlowS := match T.cells[k.toNat]? with
 | some c => c.f
 | none => noFlow
def MirS.setS (T : MirS) (k st un : Int) : Nat × MirS :=
 if T.flowErr k ≠ 0 then (T.flowErr k, T) else (0, ⟨T.life, setF T.cells k.toNat { flowAt T k with state := st, til := un }⟩)
def MirS.drop (T : MirS) (k : Int) : Nat × MirS :=
 if T.flowErr k ≠ 0 then (T.flowErr k, T) else (0, ⟨T.life, setF T.cells k.toNat noFlow⟩)

theorem idxI_bound {α : Type} (p : α → Bool) : ∀ (xs : List α) (k : Nat), idxI p xs k = -1 ∨ ((k : Int) ≤ idxI p xs k ∧ idxI p xs k < k + xs.length)
 | [], k => .inl rfl
 | x :: xs, k => by
   unfold idxI
   cases p x
   · rcases idxI_bound p xs (k + 1) with h | h
     · exact .inl h
     · right
       simp only [List.length_cons]
       omega
   · right
     simp only [List.length_cons]
     omega
def VerOk (T : MirS) : Prop := ∀ c ∈ T.cells, 0 ≤ c.ver ∧ c.ver < 9223372036854775807

section
variable {w : World} {b : Nat} {T : MirS}
theorem slot_bad {E : Nat → Addr} {n : Nat} (k : Int) (hE : Errs w E n [2]) (hk : k < 0 ∨ 32 ≤ k) :
   CallC Tryz.prog 298 #[.pointer (some ⟨b, 0, none⟩), .int .i64 k] w fun v w' => v = .tuple #[.pointer none, errV E 2] ∧ Ext No w w' := by
 refine fn_intro tabOk Tryz.func298 (by kernel_rfl) rfl Tryz.ntmps298 (lbO rfl) ?_
 have hS := St.start w No
 repeat' ((conv => whnf); first | refine RetC.mk ?_ | refine nzO ?_ | refine rgO ?_ | refine ixO ?_ | refine hS.ldr (hE.at_ 2 rfl) id ?_ | refine hS.ldrF (hE.at_ 2 rfl) id id ?_ | (refine drawL tabOk mixed [] No [0, 1, 2] rfl (by kernel_rfl) ?_; rintro w1 rfl; replace hS := hS.drew) | (first|apply brD|apply brND|apply brN|apply brI) <;> (intro))
 all_goals first | (exfalso; omega) | exact ⟨rfl, hS.ext⟩
theorem slot_ok (k : Int) (h0 : 0 ≤ k) (h1 : k < 32) :
   CallC Tryz.prog 298 #[.pointer (some ⟨b, 0, none⟩), .int .i64 k] w fun v w' => v = .tuple #[.pointer (some ⟨b, 0 + 1 + k.toNat * 10, none⟩), .nilIface] ∧ w = w' := by
 refine fn_intro tabOk Tryz.func298 (by kernel_rfl) rfl Tryz.ntmps298 (lbO rfl) ?_
 repeat' ((conv => whnf); first | refine RetC.mk ?_ | refine ixO ?_ | refine brD (fun h => absurd h (by omega)) (fun _ => ?_))
 exact ⟨rfl, rfl⟩

theorem lay1_ok (c : CellS) (w : World) : CallC Tryz.prog 344 ([Value.agg (encCell c).toArray] ++ []).toArray w fun v w' => v = .bool (proto0 c) ∧ Ext No w w' := by
 refine fn_intro tabOk Tryz.func344 (by kernel_rfl) rfl Tryz.ntmps344 (lbO rfl) ?_
 have hS := St.start w No
 conv=>whnf
 refine hS.new (fun b w' hb hS => ?_)
 repeat' ((conv => whnf); first | refine RetC.mk ?_ | refine nzO ?_ | refine rgO ?_ | refine ixO ?_ | refine hS.ld 0 rfl rfl ?_ | (first|apply brD|apply brND|apply brN|apply brI) <;> (intro))
 exact ⟨rfl, hS.ext⟩

theorem lay_ok {E : Nat → Addr} {n : Nat} (f : FlowS) (hb : Blk w b 330 (encM T)) (hm : T.cells.length = 32) (hv : VerOk T) (hE : Errs w E n [6]) (hq : n ≤ b) :
   CallC Tryz.prog 329 #[.pointer (some ⟨b, 0, none⟩), .agg (encFlow f).toArray] w fun v w' => v = .tuple #[.int .i64 (T.lay f).1.1, errV E (T.lay f).1.2] ∧ Ext (· = b) w w' ∧ Blk w' b 330 (encM (T.lay f).2) := by
 have hbw := hb.lt
 refine fn_intro tabOk Tryz.func329 (by kernel_rfl) rfl Tryz.ntmps329 (lbO rfl) ?_
 have hS := (St.start w (· = b)).add (blk_local b _ _) hb (by simp [blk]; exact hb.lt) (by simp)
 conv=>whnf
 refine hS.new (fun bf w' hbf hS => ?_)
 conv=>whnf
 refine (indexFunc_ok proto0 _ [] (tab_slc (hS.blk 0 rfl) hm) (fun x _ _ w2 _ => lay1_ok x w2)).mono ?_
 rintro v w2 ⟨rfl, hx⟩
 replace hS := hS.no hx
 clear hx
 have hI := idxI_bound proto0 T.cells 0
 unfold MirS.lay
 generalize idxI proto0 T.cells 0 = k at hI
 conv=>whnf
 refine brD (fun h1 => ?_) (fun h1 => ?_)
 · rw [if_pos h1]
   repeat' ((conv => whnf); first | refine RetC.mk ?_ | refine nzO ?_ | refine rgO ?_ | refine ixO ?_ | refine hS.ldr (hE.at_ 6 rfl) (hE.ne 6 rfl hq) ?_ | refine hS.ldrF (hE.at_ 6 rfl) (hE.ne 6 rfl hq) id ?_ | (refine drawS tabOk mixed [] No [0, 1, 2] (by kernel_rfl) ?_; rintro w1 rfl; replace hS := hS.drew) | (first|apply brD|apply brND|apply brN|apply brI) <;> (intro))
   exact ⟨rfl, hS.ext, hS.blk 0 rfl⟩
 · rw [if_neg h1]
   have hk : 0 ≤ k ∧ k < 32 := by omega
   obtain ⟨c, hc⟩ : ∃ c, T.cells[k.toNat]? = some c := ⟨_, List.getElem?_eq_getElem (by omega)⟩
   have hbb : bf ≠ b := by omega
   have hcv := hv c (List.mem_of_getElem? hc)
   conv=>whnf
   (refine drawS tabOk mixed [] ((· = b)) [0, 1, 2, 3, 4, 5, 6, 7] (by kernel_rfl) ?_; rintro w1 rfl; replace hS := hS.drew)
   repeat' ((conv => whnf); first | refine ixO ?_ | refine hS.laF 1 rfl (l := encFlow f) rfl rfl hbb ?_)
   refine hS.stX 0 rfl (by rw [encM_len hm]; simp [cellsL, encFlow]; omega) rfl (fun w' hx' hS => ?_)
   refine KeepC.mk hx' ?_
   have ho : over (encM T) (0 + 1 + k.toNat * 10 + 2) (cellsL (.agg (encFlow f).toArray)) = encM ⟨T.life, T.cells.set k.toNat ⟨c.slot, c.ver, f⟩⟩ := by
     rw [mir_over (k := k.toNat) (j := 2) (c' := ⟨c.slot, c.ver, f⟩) hc (by simp [cellsL, encFlow]) rfl (by simp <;> omega)]
   replace hS : St w (· = b) w' [blk b 330 (encM ⟨T.life, T.cells.set k.toNat ⟨c.slot, c.ver, f⟩⟩), blk bf 207 (encFlow f)] := by rw [← ho]; exact hS
   have hc2 : (T.cells.set k.toNat ⟨c.slot, c.ver, f⟩)[k.toNat]? = some ⟨c.slot, c.ver, f⟩ := List.getElem?_set_self (by omega)
   clear ho hx'
   conv=>whnf
   (refine drawS tabOk mixed [6] (· = b) [0, 1, 2, 3, 4, 5, 8, 9, 6, 7, 10, 11, 12] (by kernel_rfl) ?_; rintro w1 rfl; replace hS := hS.drew)
   repeat' ((conv => whnf); first | refine ixO ?_ | (refine hS.ld 0 rfl (mir_cell (k := k.toNat) (j := 1) hc2 rfl (by simp <;> omega)) ?_; refine KeepC.mk (Ext.refl _ _) ?_))
   refine RngC.mk (by dsimp only; omega) (by dsimp only; omega) ?_
   repeat' ((conv => whnf); first | refine ixO ?_)
   refine hS.stX 0 rfl (by rw [encM_len (by simpa using hm)]; simp [cellsL]; omega) rfl (fun w' hx' hS => ?_)
   refine KeepC.mk hx' ?_
   have ho : over (encM ⟨T.life, T.cells.set k.toNat ⟨c.slot, c.ver, f⟩⟩) (0 + 1 + k.toNat * 10 + 1) [.int .i64 (c.ver + 1)] = encM ⟨T.life, setF T.cells k.toNat f⟩ := by
     rw [mir_over (k := k.toNat) (j := 1) (c' := ⟨c.slot, c.ver + 1, f⟩) hc2 (by simp) rfl (by simp <;> omega), setF_at hc, List.set_set]
   replace hS : St w (· = b) w' [blk b 330 (encM ⟨T.life, setF T.cells k.toNat f⟩), blk bf 207 (encFlow f)] := by rw [← ho]; exact hS
   repeat' ((conv => whnf); first | refine RetC.mk ?_ | refine nzO ?_ | refine rgO ?_ | refine ixO ?_ | (first|apply brD|apply brND|apply brN|apply brI) <;> (intro))
   exact ⟨rfl, hS.ext, hS.blk 0 rfl⟩

theorem tadd_ok {E : Nat → Addr} {n : Nat} (pr ia ip fa fp st un : Int) (hb : Blk w b 330 (encM T)) (hm : T.cells.length = 32) (hv : VerOk T) (hl : 0 ≤ T.life ∧ T.life ≤ 100000) (hE : Errs w E n [5, 6]) (hq : n ≤ b) :
   CallC Tryz.prog 297 #[.pointer (some ⟨b, 0, none⟩), .int .i64 pr, .agg #[.int .i64 ia, .int .i64 ip], .agg #[.int .i64 fa, .int .i64 fp], .int .i64 st, .int .i64 un] w fun v w' => v = .tuple #[.int .i64 (T.add pr ia ip fa fp st un).1.1, errV E (T.add pr ia ip fa fp st un).1.2] ∧ Ext (· = b) w w' ∧ Blk w' b 330 (encM (T.add pr ia ip fa fp st un).2) := by
 have hbw := hb.lt
 unfold MirS.add
 refine fn_intro tabOk Tryz.func297 (by kernel_rfl) rfl Tryz.ntmps297 (lbO rfl) ?_
 have hS := (St.start w (· = b)).add (blk_local b _ _) hb (by simp [blk]; exact hb.lt) (by simp)
 conv=>whnf
 refine hS.new (fun b8 w' hb8 hS => ?_)
 conv=>whnf
 refine hS.new (fun b9 w' hb9 hS => ?_)
 conv=>whnf
 refine hS.la 1 rfl (l := [.int .i64 ia, .int .i64 ip]) rfl rfl ?_
 conv=>whnf
 refine hS.la 2 rfl (l := [.int .i64 fa, .int .i64 fp]) rfl rfl ?_
 conv=>whnf
 refine (tfind_ok pr ia ip fa fp (hS.blk 0 rfl) hm).mono ?_
 rintro v w2 ⟨rfl, hx⟩
 replace hS := hS.no hx
 clear hx
 generalize T.find pr ia ip fa fp = k
 conv=>whnf
 refine brD (fun h1 => ?_) (fun h1 => ?_)
 · rw [if_pos h1]
   repeat' ((conv => whnf); first | refine RetC.mk ?_ | refine nzO ?_ | refine rgO ?_ | refine ixO ?_ | refine hS.ldr (hE.at_ 5 rfl) (hE.ne 5 rfl hq) ?_ | refine hS.ldrF (hE.at_ 5 rfl) (hE.ne 5 rfl hq) id ?_ | (refine drawS tabOk mixed [] No [0, 1, 2] (by kernel_rfl) ?_; rintro w1 rfl; replace hS := hS.drew) | (first|apply brD|apply brND|apply brN|apply brI) <;> (intro))
   exact ⟨rfl, hS.ext, hS.blk 0 rfl⟩
 rw [if_neg h1]
 generalize hPP : portF T pr fa fp 24 0 = PP
 conv=>whnf
 refine hS.ld 0 rfl rfl ?_
 conv=>whnf
 refine loopR tabOk (fun σ w' q => ∃ i : Nat, σ = [(16, .int .i64 (T.life + i)), (9, .pointer (some ⟨b9, 0, none⟩)), (8, .pointer (some ⟨b8, 0, none⟩)), (5, .int .i64 un), (4, .int .i64 st), (1, .int .i64 pr), (0, .pointer (some ⟨b, 0, none⟩))] ∧ q = 24 - i ∧ i ≤ 24 ∧
     St w (· = b) w' [blk b 330 (encM T), blk b8 39 [.int .i64 ia, .int .i64 ip], blk b9 39 [.int .i64 fa, .int .i64 fp]] ∧ PP = portF T pr fa fp (24 - i) i)
   (σ' := [(16, .int .i64 (T.life)), (9, .pointer (some ⟨b9, 0, none⟩)), (8, .pointer (some ⟨b8, 0, none⟩)), (5, .int .i64 un), (4, .int .i64 st), (1, .int .i64 pr), (0, .pointer (some ⟨b, 0, none⟩))]) (n := 24) ⟨rfl, rfl, rfl, rfl, rfl, rfl, rfl, trivial⟩ ⟨0, by rw [show T.life + ((0 : Nat) : Int) = T.life by simp], rfl, Nat.zero_le _, hS, hPP.symm⟩ ?_
 clear hS hPP
 rintro _ w1 q ⟨i, rfl, rfl, hi, hS, hp⟩
 conv=>whnf
 refine hS.ld 0 rfl rfl ?_
 conv=>whnf
 refine rgO ?_
 conv=>whnf
 refine brD (fun h3 => ?_) (fun h3 => ?_)
 · have hi2 : 24 - i = (24 - (i + 1)) + 1 := by omega
   rw [hi2] at hp
   unfold portF at hp
   conv=>whnf
   refine hS.la 2 rfl (l := [.int .i64 fa, .int .i64 fp]) rfl rfl ?_
   conv=>whnf
   refine (tback_ok pr (T.life + i) fa fp (hS.blk 0 rfl) hm).mono ?_
   rintro v w2 ⟨rfl, hx⟩
   replace hS := hS.no hx
   clear hx
   generalize T.back pr (T.life + i) fa fp = j at hp
   conv=>whnf
   refine brND (fun h4 => ?_) (fun h4 => ?_)
   · rw [if_pos (by omega)] at hp
     subst hp
     conv=>whnf
     refine hS.la 1 rfl (l := [.int .i64 ia, .int .i64 ip]) rfl rfl ?_
     conv=>whnf
     refine hS.la 2 rfl (l := [.int .i64 fa, .int .i64 fp]) rfl rfl ?_
     conv=>whnf
     refine (lay_ok ⟨pr, ia, ip, fa, fp, T.life + i, st, un⟩ (hS.blk 0 rfl) hm hv ((hE.sub rfl).ext hS.ext fun c hc => by subst hc; exact hq) hq).mono ?_
     rintro v w' ⟨rfl, hx, hB⟩
     replace hS := hS.upd 0 rfl hx (fun c hc => by subst hc; exact List.mem_singleton.2 rfl) (blk_local _ _ _) hB (fun c hc => .inl hc)
     repeat' ((conv => whnf); first | refine RetC.mk ?_ | refine nzO ?_ | refine rgO ?_ | refine ixO ?_ | (first|apply brD|apply brND|apply brN|apply brI) <;> (intro))
     exact ⟨rfl, hS.ext, hS.blk 0 rfl⟩
   · rw [if_neg (by omega)] at hp
     conv=>whnf
     refine rgO ?_
     conv=>whnf
     refine LoopE.mk ⟨_, [(16, .int .i64 (T.life + ((i + 1 : Nat) : Int))), (9, _), (8, _), (5, _), (4, _), (1, _), (0, _)], ?_, ⟨by rw [show T.life + ((i + 1 : Nat) : Int) = T.life + i + 1 by omega]; rfl, rfl, rfl, rfl, rfl, rfl, rfl, trivial⟩, ⟨i + 1, rfl, rfl, by omega, hS, hp⟩⟩
     omega
 · obtain rfl : i = 24 := by omega
   rw [show PP = none from hp]
   repeat' ((conv => whnf); first | refine RetC.mk ?_ | refine nzO ?_ | refine rgO ?_ | refine ixO ?_ | refine hS.ldr (hE.at_ 6 rfl) (hE.ne 6 rfl hq) ?_ | refine hS.ldrF (hE.at_ 6 rfl) (hE.ne 6 rfl hq) id ?_ | (refine drawS tabOk mixed [] No [0, 1, 2] (by kernel_rfl) ?_; rintro w1 rfl; replace hS := hS.drew) | (first|apply brD|apply brND|apply brN|apply brI) <;> (intro))
   exact ⟨rfl, hS.ext, hS.blk 0 rfl⟩

theorem tput_ok {E : Nat → Addr} {n : Nat} (f : FlowS) (hb : Blk w b 330 (encM T)) (hm : T.cells.length = 32) (hv : VerOk T) (hE : Errs w E n [5, 6]) (hq : n ≤ b) :
   CallC Tryz.prog 342 #[.pointer (some ⟨b, 0, none⟩), .agg (encFlow f).toArray] w fun v w' => v = .tuple #[.int .i64 (T.put f).1.1, errV E (T.put f).1.2] ∧ Ext (· = b) w w' ∧ Blk w' b 330 (encM (T.put f).2) := by
 have hbw := hb.lt
 unfold MirS.put
 refine fn_intro tabOk Tryz.func342 (by kernel_rfl) rfl Tryz.ntmps342 (lbO rfl) ?_
 have hS := (St.start w (· = b)).add (blk_local b _ _) hb (by simp [blk]; exact hb.lt) (by simp)
 conv=>whnf
 refine hS.new (fun bf w' hbf hS => ?_)
 repeat' ((conv => whnf); first | refine RetC.mk ?_ | refine nzO ?_ | refine rgO ?_ | refine ixO ?_ | refine hS.ld 1 rfl rfl ?_ | refine hS.la 1 rfl (l := [.int .i64 f.ia, .int .i64 f.ip]) rfl rfl ?_ | refine hS.la 1 rfl (l := [.int .i64 f.fa, .int .i64 f.fp]) rfl rfl ?_ | (first|apply brD|apply brND|apply brN|apply brI) <;> (intro))
 refine (tfind_ok f.proto f.ia f.ip f.fa f.fp (hS.blk 0 rfl) hm).mono ?_
 rintro v w2 ⟨rfl, hx⟩
 replace hS := hS.no hx
 clear hx
 repeat' ((conv => whnf); first | refine RetC.mk ?_ | refine nzO ?_ | refine rgO ?_ | refine ixO ?_ | refine hS.ld 1 rfl rfl ?_ | refine hS.la 1 rfl (l := [.int .i64 f.fa, .int .i64 f.fp]) rfl rfl ?_ | (first|apply brD|apply brND|apply brN|apply brI) <;> (intro))
 refine (tback_ok f.proto f.port f.fa f.fp (hS.blk 0 rfl) hm).mono ?_
 rintro v w2 ⟨rfl, hx⟩
 replace hS := hS.no hx
 clear hx
 generalize T.find f.proto f.ia f.ip f.fa f.fp = k
 generalize T.back f.proto f.port f.fa f.fp = j
 repeat' ((conv => whnf); first | refine RetC.mk ?_ | refine nzO ?_ | refine rgO ?_ | refine ixO ?_ | refine hS.ldr (hE.at_ 5 rfl) (hE.ne 5 rfl hq) ?_ | refine hS.ldrF (hE.at_ 5 rfl) (hE.ne 5 rfl hq) id ?_ | (refine drawS tabOk mixed [] No [0, 1, 2] (by kernel_rfl) ?_; rintro w1 rfl; replace hS := hS.drew) | refine hS.la 1 rfl (l := encFlow f) rfl rfl ?_ | (first|apply brD|apply brND|apply brN|apply brI) <;> (intro))
 · rename_i h1
   rw [if_pos (.inl h1)]
   exact ⟨rfl, hS.ext, hS.blk 0 rfl⟩
 · rename_i h1 h2
   rw [if_pos (.inr h2)]
   exact ⟨rfl, hS.ext, hS.blk 0 rfl⟩
 · rename_i h1 h2
   rw [if_neg (by rintro (h | h); exact h1 h; exact h2 h)]
   refine (lay_ok f (hS.blk 0 rfl) hm hv ((hE.sub rfl).ext hS.ext fun c hc => by subst hc; exact hq) hq).mono ?_
   rintro v w' ⟨rfl, hx, hB⟩
   replace hS := hS.upd 0 rfl hx (fun c hc => by subst hc; exact List.mem_singleton.2 rfl) (blk_local _ _ _) hB (fun c hc => .inl hc)
   repeat' ((conv => whnf); first | refine RetC.mk ?_ | refine nzO ?_ | refine rgO ?_ | refine ixO ?_ | (first|apply brD|apply brND|apply brN|apply brI) <;> (intro))
   exact ⟨rfl, hS.ext, hS.blk 0 rfl⟩

theorem flow_ok {E : Nat → Addr} {n : Nat} (k : Int) (hb : Blk w b 330 (encM T)) (hm : T.cells.length = 32) (hE : Errs w E n [2, 4]) :
   CallC Tryz.prog 326 #[.pointer (some ⟨b, 0, none⟩), .int .i64 k] w fun v w' => (∃ p, v = .tuple #[p, errV E (T.flowErr k)] ∧ (T.flowErr k = 0 → p = .pointer (some ⟨b, 0 + 1 + k.toNat * 10, none⟩))) ∧ Ext No w w' := by
 unfold MirS.flowErr
 refine fn_intro tabOk Tryz.func326 (by kernel_rfl) rfl Tryz.ntmps326 (lbO rfl) ?_
 have hS := St.start w No
 by_cases h : k < 0 ∨ 32 ≤ k
 · rw [if_pos h]
   conv=>whnf
   refine (slot_bad k (hE.sub rfl) h).mono ?_
   rintro v w2 ⟨rfl, hx⟩
   replace hS := hS.no hx
   repeat' ((conv => whnf); first | refine RetC.mk ?_ | refine nzO ?_ | refine rgO ?_ | refine ixO ?_ | (first|apply brD|apply brND|apply brN|apply brI) <;> (intro))
   exact ⟨⟨_, rfl, fun h => by cases h⟩, hS.ext⟩
 · rw [if_neg h]
   obtain ⟨c, hc⟩ : ∃ c, T.cells[k.toNat]? = some c := ⟨_, List.getElem?_eq_getElem (by omega)⟩
   rw [hc]
   conv=>whnf
   refine (slot_ok k (by omega) (by omega)).mono ?_
   rintro v w2 ⟨rfl, rfl⟩
   repeat' ((conv => whnf); first | refine RetC.mk ?_ | refine nzO ?_ | refine rgO ?_ | refine ixO ?_ | refine hS.ldr ((hb.cell _).trans (mir_cell (k := k.toNat) (j := 2) hc rfl (by simp <;> omega))) id ?_ | refine hS.ldr (hE.at_ 4 rfl) id ?_ | refine hS.ldrF (hE.at_ 4 rfl) id id ?_ | (first|apply brD|apply brND|apply brN|apply brI) <;> (intro))
   · rename_i h1
     dsimp only
     rw [if_pos h1]
     exact ⟨⟨_, rfl, fun h => by cases h⟩, hS.ext⟩
   · rename_i h1
     dsimp only
     rw [if_neg h1]
     exact ⟨⟨_, rfl, fun _ => rfl⟩, hS.ext⟩

theorem tdrop_ok {E : Nat → Addr} {n : Nat} (k : Int) (hb : Blk w b 330 (encM T)) (hm : T.cells.length = 32) (hv : VerOk T) (hE : Errs w E n [2, 4]) :
   CallC Tryz.prog 292 #[.pointer (some ⟨b, 0, none⟩), .int .i64 k] w fun v w' => v = errV E (T.drop k).1 ∧ Ext (· = b) w w' ∧ Blk w' b 330 (encM (T.drop k).2) := by
 have hcode : T.flowErr k ≠ 0 → ∃ j, T.flowErr k = j + 1 := fun h => ⟨T.flowErr k - 1, by omega⟩
 have hin : T.flowErr k = 0 → 0 ≤ k ∧ k < 32 := by
   unfold MirS.flowErr
   split
   · intro h; cases h
   · intro _; omega
 unfold MirS.drop
 refine fn_intro tabOk Tryz.func292 (by kernel_rfl) rfl Tryz.ntmps292 (lbO rfl) ?_
 have hS := (St.start w (· = b)).add (blk_local b _ _) hb (by simp [blk]; exact hb.lt) (by simp)
 conv=>whnf
 refine (flow_ok k (hS.blk 0 rfl) hm hE).mono ?_
 rintro v w2 ⟨⟨p, rfl, hp⟩, hx⟩
 replace hS := hS.no hx
 clear hx
 by_cases h : T.flowErr k = 0
 · obtain rfl := hp h
   obtain ⟨h0, h1⟩ := hin h
   rw [if_neg (by simpa using h), h]
   obtain ⟨c, hc⟩ : ∃ c, T.cells[k.toNat]? = some c := ⟨_, List.getElem?_eq_getElem (by omega)⟩
   have hcv := hv c (List.mem_of_getElem? hc)
   conv=>whnf
   refine hS.st 0 rfl (by rw [encM_len hm]; simp [cellsL]; omega) rfl (fun w' hS => ?_)
   have ho : over (encM T) (0 + 1 + k.toNat * 10 + 2) (encFlow noFlow) = encM ⟨T.life, T.cells.set k.toNat ⟨c.slot, c.ver, noFlow⟩⟩ := by
     rw [mir_over (k := k.toNat) (j := 2) (c' := ⟨c.slot, c.ver, noFlow⟩) hc (by simp [encFlow]) rfl (by simp <;> omega)]
   replace hS : St w (· = b) w' [blk b 330 (encM ⟨T.life, T.cells.set k.toNat ⟨c.slot, c.ver, noFlow⟩⟩)] := by rw [← ho]; exact hS
   have hc2 : (T.cells.set k.toNat ⟨c.slot, c.ver, noFlow⟩)[k.toNat]? = some ⟨c.slot, c.ver, noFlow⟩ := List.getElem?_set_self (by omega)
   conv=>whnf
   refine hS.ld 0 rfl (mir_cell (k := k.toNat) (j := 1) hc2 rfl (by simp <;> omega)) ?_
   conv=>whnf
   refine RngC.mk (by dsimp only; omega) (by dsimp only; omega) ?_
   conv=>whnf
   refine hS.st 0 rfl (by rw [encM_len (by simpa using hm)]; simp [cellsL]; omega) rfl (fun w' hS => ?_)
   have ho : over (encM ⟨T.life, T.cells.set k.toNat ⟨c.slot, c.ver, noFlow⟩⟩) (0 + 1 + k.toNat * 10 + 1) [.int .i64 (c.ver + 1)] = encM ⟨T.life, setF T.cells k.toNat noFlow⟩ := by
     rw [mir_over (k := k.toNat) (j := 1) (c' := ⟨c.slot, c.ver + 1, noFlow⟩) hc2 (by simp) rfl (by simp <;> omega), setF_at hc, List.set_set]
   replace hS : St w (· = b) w' [blk b 330 (encM ⟨T.life, setF T.cells k.toNat noFlow⟩)] := by rw [← ho]; exact hS
   repeat' ((conv => whnf); first | refine RetC.mk ?_ | refine nzO ?_ | refine rgO ?_ | refine ixO ?_ | (first|apply brD|apply brND|apply brN|apply brI) <;> (intro))
   exact ⟨rfl, hS.ext, hS.blk 0 rfl⟩
 · rw [if_pos h]
   obtain ⟨j, hj⟩ := hcode h
   rw [hj]
   repeat' ((conv => whnf); first | refine RetC.mk ?_ | refine nzO ?_ | refine rgO ?_ | refine ixO ?_ | (first|apply brD|apply brND|apply brN|apply brI) <;> (intro))
   exact ⟨rfl, hS.ext, hS.blk 0 rfl⟩

theorem tget_ok (k : Int) (hb : Blk w b 330 (encM T)) {c : CellS} (h0 : 0 ≤ k) (h1 : k < 32) (hc : T.cells[k.toNat]? = some c) :
   CallC Tryz.prog 229 #[.pointer (some ⟨b, 0, none⟩), .int .i64 k] w fun v w' => v = .tuple #[.agg (encCell c).toArray, .nilIface] ∧ Ext No w w' := by
 refine fn_intro tabOk Tryz.func229 (by kernel_rfl) rfl Tryz.ntmps229 (lbO rfl) ?_
 have hS := St.start w No
 have hcc : CellsAt w b (0 + 1 + k.toNat * 10) (encCell c) := fun j v hj => (hb.cell _).trans (mir_cell (k := k.toNat) (j := j) hc hj (by omega))
 conv=>whnf
 refine hS.new (fun b4 w' hb4 hS => ?_)
 conv=>whnf
 refine (slot_ok k h0 h1).mono ?_
 rintro v w2 ⟨rfl, rfl⟩
 conv=>whnf
 refine hS.lar (l := encCell c) rfl hcc id ?_
 conv=>whnf
 refine hS.st 0 rfl (lbO rfl) rfl (fun w' hS => ?_)
 conv=>whnf
 refine hS.la 0 rfl (l := encCell c) rfl rfl ?_
 repeat' ((conv => whnf); first | refine RetC.mk ?_ | refine nzO ?_ | refine rgO ?_ | refine ixO ?_ | (first|apply brD|apply brND|apply brN|apply brI) <;> (intro))
 exact ⟨rfl, hS.ext⟩

theorem tcells_ok (hb : Blk w b 330 (encM T)) (hm : T.cells.length = 32) :
   CallC Tryz.prog 243 #[.pointer (some ⟨b, 0, none⟩)] w fun v w' => ∃ a' c', v = .slice a' 32 c' ∧ Ext No w w' ∧ (ownL 209 10 encCell v T.cells).holds w' ∧ Fresh w w' v := by
 refine fn_intro tabOk Tryz.func243 (by kernel_rfl) rfl Tryz.ntmps243 (lbO rfl) ?_
 conv=>whnf
 refine (clone_ok (tab_slc hb hm) (by decide) rfl).mono ?_
 rintro v w' ⟨a', c', rfl, h⟩
 repeat' ((conv => whnf); first | refine RetC.mk ?_ | refine nzO ?_ | refine rgO ?_ | refine ixO ?_ | (first|apply brD|apply brND|apply brN|apply brI) <;> (intro))
 exact ⟨a', c', rfl, h⟩

theorem tab_build (f : Int) (w : World) : (Instr.build 330 #[(0, .int .i64 f)]).run Tryz.prog w = .ok (.agg (encM ⟨f, List.replicate 32 ⟨0, 0, noFlow⟩⟩).toArray) w := by kernel_rfl
theorem tnew_ok (nd : Int) (w : World) (h : nd = 0 ∨ nd = 1) :
   CallC Tryz.prog 124 #[.int .i64 nd] w fun v w' => ∃ b, v = .tuple #[.pointer (some ⟨b, 0, none⟩), .nilIface] ∧ w.heap.size ≤ b ∧ Ext No w w' ∧ Blk w' b 330 (encM ⟨2000 + nd * 24, emptyCells⟩) := by
 obtain ⟨V, hV, hl, h1, hbld⟩ : ∃ V : List Value, V = encM ⟨2000 + nd * 24, partCells 0⟩ ∧ V.length = 321 ∧ V.all isOne = true ∧ ∀ w, (Instr.build 330 #[(0, .int .i64 (2000 + nd * 24))]).run Tryz.prog w = .ok (.agg V.toArray) w := ⟨_, rfl, encM_len (by simp [partCells]), by unfold encM; rw [List.all_cons, flat_one codCell]; rfl, tab_build _⟩
 have hb2 : ∀ k : Value → Prop, k (.agg V.toArray) → PureC Tryz.prog (Instr.build 330 #[(0, .int .i64 (2000 + nd * 24))]) k := fun k hk => PureC.of hbld hk
 have ho : cellsL (.agg V.toArray) = encM ⟨2000 + nd * 24, partCells 0⟩ := by simp [cellsL, hV]
 generalize hVV : Value.agg V.toArray = VV at hb2 ho
 refine fn_intro tabOk Tryz.func124 (by kernel_rfl) rfl Tryz.ntmps124 (lbO rfl) ?_
 have hS := St.start w No
 repeat' ((conv => whnf); first | refine rgO ?_ | refine hb2 _ ?_ | refine brND ?_ ?_ <;> (intro))
 all_goals first | (exfalso; omega) | skip
 all_goals
   refine hS.new (fun b w' hb hS => ?_)
   rw [ho] at hS
   conv=>whnf
   refine loopR tabOk (fun σ w' q => ∃ k : Nat, σ = [(18, .int .i64 k), (4, .pointer (some ⟨b, 0, none⟩))] ∧ q = 32 - k ∧ k ≤ 32 ∧ St w No w' [blk b 330 (encM ⟨2000 + nd * 24, partCells k⟩)])
     (σ' := [(18, .int .i64 ((0 : Nat) : Int)), (4, .pointer (some ⟨b, 0, none⟩))]) (n := 32) ⟨rfl, rfl, trivial⟩ ⟨0, rfl, rfl, Nat.zero_le _, hS⟩ ?_
   clear hS
   rintro _ w1 q ⟨k, rfl, rfl, hk, hS⟩
   conv=>whnf
   refine brD (fun h3 => ?_) (fun h3 => ?_)
   · have hk : k < 32 := by omega
     have hc := partCells_at hk
     conv=>whnf
     refine ixO ?_
     conv=>whnf
     refine hS.st 0 rfl (by rw [encM_len (partCells_len (by omega))]; simp [cellsL]; omega) rfl (fun w' hS => ?_)
     have ho : over (encM ⟨2000 + nd * 24, partCells k⟩) (0 + 1 + Int.toNat (k : Int) * 10 + 0) [.int .i64 (k : Int)] = encM ⟨2000 + nd * 24, partCells (k + 1)⟩ := by
       rw [mir_over (k := k) (j := 0) (c' := ⟨(k : Int), 0, noFlow⟩) hc (by simp) rfl (by simp <;> omega)]
       simp only [partCells_set hk]
     replace hS : St w No w' [blk b 330 (encM ⟨2000 + nd * 24, partCells (k + 1)⟩)] := by rw [← ho]; exact hS
     clear ho
     conv=>whnf
     refine rgO ?_
     conv=>whnf
     refine LoopE.mk ⟨_, [(18, .int .i64 ((k + 1 : Nat) : Int)), (4, _)], ?_, ⟨rfl, rfl, trivial⟩, ⟨k + 1, rfl, rfl, by omega, hS⟩⟩
     omega
   · obtain rfl : k = 32 := by omega
     rw [partCells_full] at hS
     repeat' ((conv => whnf); first | refine RetC.mk ?_ | refine nzO ?_ | refine rgO ?_ | refine ixO ?_ | (first|apply brD|apply brND|apply brN|apply brI) <;> (intro))
     exact ⟨b, rfl, hb, hS.ext, hS.blk 0 rfl⟩
end
end Go.Proofs.YtogjajjdaoihdaaGreatDoor

namespace Go.Proofs.YtogjajjdaoihdaaGreatDoor
set_option maxRecDepth 20000
open Go Ev

theorem idxI_spec {α : Type} (p : α → Bool) : ∀ (xs : List α) (k : Nat), 0 ≤ idxI p xs k → ∃ (j : Nat) (x : α), xs[j]? = some x ∧ p x = true ∧ idxI p xs k = (k : Int) + j ∧ ∀ (i : Nat) y, i < j → xs[i]? = some y → p y = false
 | [], k, h => by simp [idxI] at h
 | x :: xs, k, h => by
   cases hp : p x
   · unfold idxI at h ⊢
     rw [hp] at h ⊢
     obtain ⟨j, y, h1, h2, h3, h4⟩ := idxI_spec p xs (k + 1) h
     refine ⟨j + 1, y, by simpa using h1, h2, ?_, ?_⟩
     · show idxI p xs (k + 1) = _
       omega
     · intro i z hi hz
       cases i with
       | zero => simp at hz; subst hz; exact hp
       | succ i => exact h4 i z (by omega) (by simpa using hz)
   · refine ⟨0, x, rfl, hp, ?_, fun i y hi => by omega⟩
     unfold idxI
     rw [hp]
     simp

end Go.Proofs.YtogjajjdaoihdaaGreatDoor

namespace Go.Proofs.YtogjajjdaoihdaaGreatDoor
set_option maxRecDepth 20000
open Go Ev

structure TOk (n : Nat) (T : MirS) : Prop where
 len : T.cells.length = 32
 ver : ∀ c ∈ T.cells, 0 ≤ c.ver ∧ c.ver ≤ n
 slot : ∀ (k : Nat) c, T.cells[k]? = some c → c.slot = k
theorem TOk.verOk {n : Nat} {T : MirS} (h : TOk n T) (hn : n ≤ 100000000) : VerOk T := fun c hc => by have := h.ver c hc; omega
theorem TOk.succ {n : Nat} {T : MirS} (h : TOk n T) : TOk (n + 1) T := ⟨h.len, fun c hc => by have := h.ver c hc; omega, h.slot⟩
theorem TOk.empty (F : Int) : TOk 0 ⟨F, emptyCells⟩ := by
 refine ⟨emptyCells_len, fun c hc => ?_, fun k c hk => ?_⟩
 · simp only [emptyCells, List.mem_map] at hc
   obtain ⟨i, _, rfl⟩ := hc
   exact ⟨Int.le_refl _, Int.le_refl _⟩
 · have lt := (List.getElem?_eq_some_iff.1 hk).1
   have hk : emptyCells[k]? = some c := hk
   have lt : k < emptyCells.length := lt
   rw [emptyCells_len] at lt
   rw [emptyCells_at lt] at hk
   cases hk
   rfl
theorem TOk.set {n : Nat} {T : MirS} (h : TOk n T) (s : Nat) (f : FlowS) : TOk (n + 1) ⟨T.life, setF T.cells s f⟩ := by
 unfold setF
 cases hs : T.cells[s]? with
 | none => exact h.succ
 | some e =>
   have lt := (List.getElem?_eq_some_iff.1 hs).1
   have hev := h.ver e (List.mem_of_getElem? hs)
   refine ⟨by simpa using h.len, fun c hc => ?_, fun k c hk => ?_⟩
   · rcases List.mem_or_eq_of_mem_set hc with hc | rfl
     · have := h.ver c hc; omega
     · dsimp only; omega
   · simp only [List.getElem?_set] at hk
     by_cases h1 : s = k
     · subst h1
       rw [if_pos rfl, if_pos lt] at hk
       cases hk
       exact h.slot s e hs
     · rw [if_neg h1] at hk
       exact h.slot k c hk
theorem TOk.lay {n : Nat} {T : MirS} (h : TOk n T) (f : FlowS) : TOk (n + 1) (T.lay f).2 := by
 unfold MirS.lay
 split
 · exact h.succ
 · exact h.set _ _
theorem TOk.add {n : Nat} {T : MirS} (h : TOk n T) (pr ia ip fa fp st un : Int) : TOk (n + 1) (T.add pr ia ip fa fp st un).2 := by
 unfold MirS.add
 split
 · exact h.succ
 · split
   · exact h.lay _
   · exact h.succ
theorem TOk.put {n : Nat} {T : MirS} (h : TOk n T) (f : FlowS) : TOk (n + 1) (T.put f).2 := by
 unfold MirS.put
 split
 · exact h.succ
 · exact h.lay _
theorem TOk.setS {n : Nat} {T : MirS} (h : TOk n T) (k st un : Int) : TOk (n + 1) (T.setS k st un).2 := by
 unfold MirS.setS
 split
 · exact h.succ
 · exact h.set _ _
theorem TOk.drop {n : Nat} {T : MirS} (h : TOk n T) (k : Int) : TOk (n + 1) (T.drop k).2 := by
 unfold MirS.drop
 split
 · exact h.succ
 · exact h.set _ _
def expC (now : Int) (c : CellS) : Bool := decide (c.f.proto ≠ 0) && decide (c.f.til ≤ now)
def dropC (now : Int) (c : CellS) : CellS := if expC now c = true then ⟨c.slot, c.ver + 1, noFlow⟩ else c
def expCells (now : Int) (k : Nat) (l : List CellS) : List CellS := (l.take k).map (dropC now) ++ l.drop k
def expOut (now : Int) (k : Nat) (l : List CellS) : List Int := ((List.range k).filter fun i => match l[i]? with | some c => expC now c | none => false).map fun (i : Nat) => (i : Int)
theorem expCells_len (now : Int) (k : Nat) (l : List CellS) : (expCells now k l).length = l.length := by
 simp only [expCells, List.length_append, List.length_map, List.length_take, List.length_drop]
 omega
theorem expCells_at {now : Int} {k : Nat} {l : List CellS} {c : CellS} (h : l[k]? = some c) : (expCells now k l)[k]? = some c := by
 have lt := (List.getElem?_eq_some_iff.1 h).1
 unfold expCells
 rw [List.getElem?_append_right (by simp; omega)]
 simp only [List.length_map, List.length_take, Nat.min_eq_left (Nat.le_of_lt lt), Nat.sub_self, List.getElem?_drop, Nat.add_zero]
 exact h
theorem expCells_succ {now : Int} {k : Nat} {l : List CellS} {c : CellS} (h : l[k]? = some c) : expCells now (k + 1) l = (expCells now k l).set k (dropC now c) := by
 have lt := (List.getElem?_eq_some_iff.1 h).1
 have e := (List.getElem?_eq_some_iff.1 h).2
 unfold expCells
 rw [List.set_append_right _ _ (by simp; omega), List.take_add_one, h, List.map_append, List.append_assoc]
 congr 1
 simp only [List.length_map, List.length_take, Nat.min_eq_left (Nat.le_of_lt lt), Nat.sub_self]
 rw [List.drop_eq_getElem_cons lt, List.set_cons_zero]
 rfl
theorem expOut_succ {now : Int} {k : Nat} {l : List CellS} {c : CellS} (h : l[k]? = some c) : expOut now (k + 1) l = expOut now k l ++ (if expC now c = true then [(k : Int)] else []) := by
 unfold expOut
 rw [List.range_succ, List.filter_append, List.map_append]
 congr 1
 cases hc : expC now c <;> simp [h, hc]
theorem expOut_len (now : Int) (k : Nat) (l : List CellS) : (expOut now k l).length ≤ k := by
 unfold expOut
 rw [List.length_map]
 refine Nat.le_trans (List.length_filter_le _ _) ?_
 simp
def MirS.expire (T : MirS) (now : Int) : MirS := ⟨T.life, expCells now 32 T.cells⟩
theorem expCells_mem {now : Int} {k : Nat} {l : List CellS} {c : CellS} (h : c ∈ expCells now k l) : ∃ d ∈ l, c = d ∨ c = dropC now d := by
 unfold expCells at h
 rcases List.mem_append.1 h with h | h
 · obtain ⟨d, hd, rfl⟩ := List.mem_map.1 h
   exact ⟨d, List.mem_of_mem_take hd, .inr rfl⟩
 · exact ⟨c, List.mem_of_mem_drop h, .inl rfl⟩
theorem dropC_ver (now : Int) (c : CellS) : c.ver ≤ (dropC now c).ver ∧ (dropC now c).ver ≤ c.ver + 1 := by
 unfold dropC
 split
 · dsimp only; omega
 · omega
theorem dropC_slot (now : Int) (c : CellS) : (dropC now c).slot = c.slot := by
 unfold dropC
 split <;> rfl
theorem TOk.expire {n : Nat} {T : MirS} (h : TOk n T) (now : Int) (k : Nat) : TOk (n + 1) ⟨T.life, expCells now k T.cells⟩ := by
 refine ⟨(expCells_len _ _ _).trans h.len, fun c hc => ?_, fun j c hj => ?_⟩
 · obtain ⟨d, hd, h1⟩ := expCells_mem hc
   have := h.ver d hd
   have := dropC_ver now d
   rcases h1 with rfl | rfl <;> omega
 · have lt := (List.getElem?_eq_some_iff.1 hj).1
   have hj : (expCells now k T.cells)[j]? = some c := hj
   have lt : j < (expCells now k T.cells).length := lt
   rw [expCells_len] at lt
   unfold expCells at hj
   by_cases hk : j < k
   · rw [List.getElem?_append_left (by simp; omega)] at hj
     simp only [List.getElem?_map, List.getElem?_take, if_pos hk, Option.map_eq_some_iff] at hj
     obtain ⟨d, hd, rfl⟩ := hj
     rw [dropC_slot]
     exact h.slot j d hd
   · rw [List.getElem?_append_right (by simp; omega)] at hj
     simp only [List.length_map, List.length_take, List.getElem?_drop] at hj
     rcases Nat.le_total k T.cells.length with h1 | h1
     · rw [Nat.min_eq_left h1, show k + (j - k) = j by omega] at hj
       exact h.slot j c hj
     · omega

section
variable {w : World} {b : Nat} {T : MirS}
theorem tset_ok {E : Nat → Addr} {n : Nat} (k st un : Int) (hb : Blk w b 330 (encM T)) (hm : T.cells.length = 32) (hv : VerOk T) (hE : Errs w E n [2, 4]) :
   CallC Tryz.prog 293 #[.pointer (some ⟨b, 0, none⟩), .int .i64 k, .int .i64 st, .int .i64 un] w fun v w' => v = errV E (T.setS k st un).1 ∧ Ext (· = b) w w' ∧ Blk w' b 330 (encM (T.setS k st un).2) := by
 have hcode : T.flowErr k ≠ 0 → ∃ j, T.flowErr k = j + 1 := fun h => ⟨T.flowErr k - 1, by omega⟩
 have hin : T.flowErr k = 0 → 0 ≤ k ∧ k < 32 := by
   unfold MirS.flowErr
   split
   · intro h; cases h
   · intro _; omega
 unfold MirS.setS
 refine fn_intro tabOk Tryz.func293 (by kernel_rfl) rfl Tryz.ntmps293 (lbO rfl) ?_
 have hS := (St.start w (· = b)).add (blk_local b _ _) hb (by simp [blk]; exact hb.lt) (by simp)
 conv=>whnf
 refine (flow_ok k (hS.blk 0 rfl) hm hE).mono ?_
 rintro v w2 ⟨⟨p, rfl, hp⟩, hx⟩
 replace hS := hS.no hx
 clear hx
 by_cases h : T.flowErr k = 0
 · obtain rfl := hp h
   obtain ⟨h0, h1⟩ := hin h
   rw [if_neg (by simpa using h), h]
   obtain ⟨c, hc⟩ : ∃ c, T.cells[k.toNat]? = some c := ⟨_, List.getElem?_eq_getElem (by omega)⟩
   have hcv := hv c (List.mem_of_getElem? hc)
   have hfa : flowAt T k = c.f := by unfold flowAt; rw [hc]
   rw [hfa]
   conv=>whnf
   refine hS.st 0 rfl (by rw [encM_len hm]; simp [cellsL]; omega) rfl (fun w' hS => ?_)
   have ho : over (encM T) (0 + 1 + k.toNat * 10 + 2 + 6) [.int .i64 st] = encM ⟨T.life, T.cells.set k.toNat ⟨c.slot, c.ver, { c.f with state := st }⟩⟩ := by
     rw [mir_over (k := k.toNat) (j := 8) (c' := ⟨c.slot, c.ver, { c.f with state := st }⟩) hc (by simp) rfl (by simp <;> omega)]
   replace hS : St w (· = b) w' [blk b 330 (encM ⟨T.life, T.cells.set k.toNat ⟨c.slot, c.ver, { c.f with state := st }⟩⟩)] := by rw [← ho]; exact hS
   have hc2 : (T.cells.set k.toNat ⟨c.slot, c.ver, { c.f with state := st }⟩)[k.toNat]? = some ⟨c.slot, c.ver, { c.f with state := st }⟩ := List.getElem?_set_self (by omega)
   conv=>whnf
   refine hS.st 0 rfl (by rw [encM_len (by simpa using hm)]; simp [cellsL]; omega) rfl (fun w' hS => ?_)
   have ho : over (encM ⟨T.life, T.cells.set k.toNat ⟨c.slot, c.ver, { c.f with state := st }⟩⟩) (0 + 1 + k.toNat * 10 + 2 + 7) [.int .i64 un] = encM ⟨T.life, T.cells.set k.toNat ⟨c.slot, c.ver, { c.f with state := st, til := un }⟩⟩ := by
     rw [mir_over (k := k.toNat) (j := 9) (c' := ⟨c.slot, c.ver, { c.f with state := st, til := un }⟩) hc2 (by simp) rfl (by simp <;> omega), List.set_set]
   replace hS : St w (· = b) w' [blk b 330 (encM ⟨T.life, T.cells.set k.toNat ⟨c.slot, c.ver, { c.f with state := st, til := un }⟩⟩)] := by rw [← ho]; exact hS
   have hc3 : (T.cells.set k.toNat ⟨c.slot, c.ver, { c.f with state := st, til := un }⟩)[k.toNat]? = some ⟨c.slot, c.ver, { c.f with state := st, til := un }⟩ := List.getElem?_set_self (by omega)
   conv=>whnf
   refine hS.ld 0 rfl (mir_cell (k := k.toNat) (j := 1) hc3 rfl (by simp <;> omega)) ?_
   conv=>whnf
   refine RngC.mk (by dsimp only; omega) (by dsimp only; omega) ?_
   conv=>whnf
   refine hS.st 0 rfl (by rw [encM_len (by simpa using hm)]; simp [cellsL]; omega) rfl (fun w' hS => ?_)
   have ho : over (encM ⟨T.life, T.cells.set k.toNat ⟨c.slot, c.ver, { c.f with state := st, til := un }⟩⟩) (0 + 1 + k.toNat * 10 + 1) [.int .i64 (c.ver + 1)] = encM ⟨T.life, setF T.cells k.toNat { c.f with state := st, til := un }⟩ := by
     rw [mir_over (k := k.toNat) (j := 1) (c' := ⟨c.slot, c.ver + 1, { c.f with state := st, til := un }⟩) hc3 (by simp) rfl (by simp <;> omega), setF_at hc, List.set_set]
   replace hS : St w (· = b) w' [blk b 330 (encM ⟨T.life, setF T.cells k.toNat { c.f with state := st, til := un }⟩)] := by rw [← ho]; exact hS
   repeat' ((conv => whnf); first | refine RetC.mk ?_ | refine nzO ?_ | refine rgO ?_ | refine ixO ?_ | (first|apply brD|apply brND|apply brN|apply brI) <;> (intro))
   exact ⟨rfl, hS.ext, hS.blk 0 rfl⟩
 · rw [if_pos h]
   obtain ⟨j, hj⟩ := hcode h
   rw [hj]
   repeat' ((conv => whnf); first | refine RetC.mk ?_ | refine nzO ?_ | refine rgO ?_ | refine ixO ?_ | (first|apply brD|apply brND|apply brN|apply brI) <;> (intro))
   exact ⟨rfl, hS.ext, hS.blk 0 rfl⟩

theorem codInt : Codec 1 encI := ⟨fun _ => rfl, fun _ => rfl, by decide⟩

theorem texpire_ok {E : Nat → Addr} {n m : Nat} (now : Int) (hb : Blk w b 330 (encM T)) (hT : TOk m T) (hmm : m ≤ 50000000) (hE : Errs w E n [2, 4]) (hq : n ≤ b) :
   CallC Tryz.prog 318 #[.pointer (some ⟨b, 0, none⟩), .int .i64 now] w fun v w' => (∃ a' c', v = .slice a' (expOut now 32 T.cells).length c') ∧ Ext (· = b) w w' ∧ Blk w' b 330 (encM (T.expire now)) ∧ (ownL 3 1 encI v (expOut now 32 T.cells)).holds w' ∧ Fresh w w' v := by
 have hm := hT.len
 have hbl := hb.lt
 refine fn_intro tabOk Tryz.func318 (by kernel_rfl) rfl Tryz.ntmps318 (lbO rfl) ?_
 have hS := (St.start w (· = b)).add (blk_local b _ _) hb (by simp [blk]; exact hb.lt) (by simp)
 have hl0 : CellsAt w b 1 (T.cells.flatMap encCell) := hb.cells (by rw [flat_len codCell]; simp only [encM, List.drop_succ_cons, List.drop_zero]; exact flat_take _)
 conv=>whnf
 refine hS.la 0 rfl (l := T.cells.flatMap encCell) (by rw [flat_len codCell, hm]) (by rw [flat_len codCell]; simp only [encM, List.drop_succ_cons, List.drop_zero]; exact flat_take _) ?_
 have hS := hS.add (ownL_local (e := 3) (enc := encI) (sz := 1) (v := .slice none 0 0) (xs := [])) (own_nil _ _ _) (by simp [ownL, own, Value.ownBlock]) (by simp [ownL, own, Value.ownBlock])
 conv=>whnf
 refine loopR tabOk (fun σ w' q => ∃ (k : Nat) (v : Value), σ = [(12, .int .i64 k), (11, .agg (T.cells.flatMap encCell).toArray), (5, v), (1, .int .i64 now), (0, .pointer (some ⟨b, 0, none⟩))] ∧ q = 32 - k ∧ k ≤ 32 ∧ (∃ a' c', v = .slice a' (expOut now k T.cells).length c') ∧ St w (· = b) w' [blk b 330 (encM ⟨T.life, expCells now k T.cells⟩), ownL 3 1 encI v (expOut now k T.cells)])
   (σ' := [(12, .int .i64 ((0 : Nat) : Int)), (11, .agg (T.cells.flatMap encCell).toArray), (5, .slice none 0 0), (1, .int .i64 now), (0, .pointer (some ⟨b, 0, none⟩))]) (n := 32) ⟨rfl, rfl, rfl, rfl, rfl, trivial⟩ ⟨0, _, rfl, rfl, Nat.zero_le _, ⟨none, 0, rfl⟩, hS⟩ ?_
 clear hS
 rintro _ w1 q ⟨k, _, rfl, rfl, hk, ⟨a', c', rfl⟩, hS⟩
 conv=>whnf
 refine brD (fun h3 => ?_) (fun h3 => ?_)
 · obtain ⟨x, hxk⟩ : ∃ x, T.cells[k]? = some x := ⟨_, List.getElem?_eq_getElem (by omega)⟩
   have hol := expOut_len now k T.cells
   have hos := expOut_succ (now := now) hxk
   have hcs := expCells_succ (now := now) hxk
   have hca := expCells_at (now := now) hxk
   have hTk := hT.expire now k
   have hxv := hT.ver x (List.mem_of_getElem? hxk)
   conv=>whnf
   refine PureC.of (index_run codCell (k := k) (by rw [hm]; exact Tryz.underlying328) (by kernel_rfl) ⟨_, Tryz.underlying209⟩ (by kernel_rfl) (by kernel_rfl) hxk rfl) ?_
   conv=>whnf
   refine hS.new (fun bc w' hbc hS => ?_)
   conv=>whnf
   refine hS.st 2 rfl (lbO rfl) rfl (fun w' hS => ?_)
   replace hS : St w (· = b) w' [blk b 330 (encM ⟨T.life, expCells now k T.cells⟩), ownL 3 1 encI (.slice a' (expOut now k T.cells).length c') (expOut now k T.cells), blk bc 209 (encCell x)] := hS
   by_cases hx : expC now x = true
   · have h1 : x.f.proto ≠ 0 ∧ x.f.til ≤ now := by simpa [expC] using hx
     rw [if_pos hx] at hos
     have hdr : (MirS.mk T.life (expCells now k T.cells)).drop k = (0, ⟨T.life, expCells now (k + 1) T.cells⟩) := by
       have hfe : (MirS.mk T.life (expCells now k T.cells)).flowErr k = 0 := by
         unfold MirS.flowErr
         rw [if_neg (by omega)]
         simp only [show ((k : Int)).toNat = k by simp, hca]
         simp [h1.1]
       unfold MirS.drop
       rw [hfe, if_neg (by simp), show ((k : Int)).toNat = k by simp]
       simp only [setF_at hca]
       rw [hcs, dropC, if_pos hx]
     conv=>whnf
     refine hS.ld 2 rfl rfl ?_
     conv=>whnf
     refine brND (fun _ => ?_) (fun h => absurd h h1.1)
     conv=>whnf
     refine hS.ld 2 rfl rfl ?_
     conv=>whnf
     refine brD (fun _ => ?_) (fun h => absurd h1.2 h)
     conv=>whnf
     refine (tdrop_ok (k : Int) (hS.blk 0 rfl) hTk.len (hTk.verOk (by omega)) ((hE.sub rfl).ext hS.ext fun c hc => by subst hc; exact hq)).mono ?_
     rw [hdr]
     rintro v w' ⟨rfl, hx', hB⟩
     replace hS := hS.upd 0 rfl hx' (fun c hc => by subst hc; exact List.mem_singleton.2 rfl) (blk_local _ _ _) hB (fun c hc => .inl hc)
     conv=>whnf
     refine hS.lit (cs := [.int .i64 k]) Tryz.underlying47 (sz := 1) (by kernel_rfl) (z := .int .i64 0) (by kernel_rfl) rfl rfl (by rfl) (fun bl w' hbl hS => ?_)
     conv=>whnf
     refine hS.appS codInt 1 (ys := [(k : Int)]) (G := fun _ => True) Tryz.underlying47 (bytes := 8) (by kernel_rfl) (z := .int .i64 0) (by kernel_rfl) rfl rfl (Slc.of_blk codInt (hS.blk 3 rfl) rfl (by simp) (fun _ _ => trivial) rfl) (by unfold maxLen; omega) (by omega) (fun a2 c2 w' hS => ?_)
     replace hS := hS.keep 2
     rw [← hos] at hS
     have hl2 : (expOut now k T.cells).length + 1 = (expOut now (k + 1) T.cells).length := by rw [hos]; simp
     rw [hl2] at hS ⊢
     conv=>whnf
     refine rgO ?_
     conv=>whnf
     refine LoopE.mk ⟨_, [(12, .int .i64 ((k + 1 : Nat) : Int)), (11, _), (5, _), (1, _), (0, _)], ?_, ⟨rfl, rfl, rfl, rfl, rfl, trivial⟩, ⟨k + 1, _, rfl, rfl, by omega, ⟨a2, c2, rfl⟩, hS⟩⟩
     omega
   · rw [if_neg hx, List.append_nil] at hos
     have hcs2 : expCells now (k + 1) T.cells = expCells now k T.cells := by
       rw [hcs, dropC, if_neg hx]
       obtain ⟨lt, e⟩ := List.getElem?_eq_some_iff.1 hca
       rw [← e]
       exact List.set_getElem_self lt
     have h1 : x.f.proto ≠ 0 → ¬ x.f.til ≤ now := by
       intro a b
       exact hx (by simp [expC, a, b])
     have fin : ∀ w', St w (· = b) w' [blk b 330 (encM ⟨T.life, expCells now k T.cells⟩), ownL 3 1 encI (.slice a' (expOut now k T.cells).length c') (expOut now k T.cells), blk bc 209 (encCell x)] → St w (· = b) w' [blk b 330 (encM ⟨T.life, expCells now (k + 1) T.cells⟩), ownL 3 1 encI (.slice a' (expOut now k T.cells).length c') (expOut now (k + 1) T.cells)] := by
       intro w' hS
       rw [hcs2, hos]
       exact hS.keep 2
     conv=>whnf
     refine hS.ld 2 rfl rfl ?_
     conv=>whnf
     refine brND (fun h4 => ?_) (fun h4 => ?_)
     · (conv => whnf)
       refine hS.ld 2 rfl rfl ?_
       conv=>whnf
       refine brD (fun h => absurd h (h1 h4)) (fun h => ?_)
       conv=>whnf
       refine rgO ?_
       conv=>whnf
       refine LoopE.mk ⟨_, [(12, .int .i64 ((k + 1 : Nat) : Int)), (11, _), (5, _), (1, _), (0, _)], ?_, ⟨rfl, rfl, rfl, rfl, rfl, trivial⟩, ⟨k + 1, _, rfl, rfl, by omega, ⟨a', c', by rw [hos]⟩, fin _ hS⟩⟩
       omega
     · (conv => whnf)
       refine rgO ?_
       conv=>whnf
       refine LoopE.mk ⟨_, [(12, .int .i64 ((k + 1 : Nat) : Int)), (11, _), (5, _), (1, _), (0, _)], ?_, ⟨rfl, rfl, rfl, rfl, rfl, trivial⟩, ⟨k + 1, _, rfl, rfl, by omega, ⟨a', c', by rw [hos]⟩, fin _ hS⟩⟩
       omega
 · obtain rfl : k = 32 := by omega
   repeat' ((conv => whnf); first | refine RetC.mk ?_ | refine nzO ?_ | refine rgO ?_ | refine ixO ?_ | (first|apply brD|apply brND|apply brN|apply brI) <;> (intro))
   refine ⟨⟨a', c', rfl⟩, hS.ext, hS.blk 0 rfl, hS.get 1 rfl, fun g hg => ?_⟩
   obtain ⟨h1, h2⟩ := hS.may _ (List.mem_of_getElem? (i := 1) rfl) g (by simpa [ownL, own] using hg)
   refine ⟨h1.resolve_left ?_, h2⟩
   rintro rfl
   have := pairwise_at apart_symm hS.apart (i := 0) (j := 1) rfl rfl (by decide) g (by simp [blk])
   exact this (by simpa [ownL, own] using hg)
end
end Go.Proofs.YtogjajjdaoihdaaGreatDoor

namespace Go.Proofs.YtogjajjdaoihdaaGreatDoor
set_option maxRecDepth 20000
open Go Ev

def verAt (l : List CellS) (k : Nat) : Int := match l[k]? with
 | some c => c.ver
 | none => 0
def cellAt (l : List CellS) (k : Nat) : CellS := match l[k]? with
 | some c => c
 | none => ⟨0, 0, noFlow⟩
def toldAt (t : List Int) (k : Nat) : Int := match t[k]? with
 | some v => v
 | none => 0
def lagB (l : List CellS) (t : List Int) (k : Nat) : Bool := decide (verAt l k ≠ toldAt t k)
def pick1 (l : List CellS) (t : List Int) (n : Nat) : List Nat := ((List.range n).filter (lagB l t)).take 8
def tellAll (l : List CellS) (t : List Int) (p : List Nat) : List Int := p.foldl (fun t k => t.set k (verAt l k)) t
def stage2 : Nat → Nat → List Nat → Nat × List Nat
 | 0, c, p => (c, p)
 | n + 1, c, p => if p.length < 8 then stage2 n ((c + 1) % 32) (if c ∈ p then p else p ++ [c]) else (c, p)
structure TelS where
 told : List Int
 cursor : Nat
def TelS.picks (X : TelS) (l : List CellS) : List Nat := (stage2 32 X.cursor (pick1 l X.told 32)).2
def TelS.next (X : TelS) (l : List CellS) : TelS := ⟨tellAll l X.told (X.picks l), (stage2 32 X.cursor (pick1 l X.told 32)).1⟩
def outC (l : List CellS) (p : List Nat) : List CellS := p.map (cellAt l)
theorem verAt_of {l : List CellS} {k : Nat} {c : CellS} (h : l[k]? = some c) : verAt l k = c.ver := by unfold verAt; rw [h]
theorem cellAt_of {l : List CellS} {k : Nat} {c : CellS} (h : l[k]? = some c) : cellAt l k = c := by unfold cellAt; rw [h]
theorem toldAt_of {t : List Int} {k : Nat} {v : Int} (h : t[k]? = some v) : toldAt t k = v := by unfold toldAt; rw [h]
theorem pick1_len (l : List CellS) (t : List Int) (n : Nat) : (pick1 l t n).length ≤ 8 := by
 unfold pick1
 rw [List.length_take]
 omega
theorem pick1_lt {l : List CellS} {t : List Int} {n k : Nat} (h : k ∈ pick1 l t n) : k < n := by
 have := List.mem_of_mem_take h
 simp at this
 exact this.1
theorem pick1_succ (l : List CellS) (t : List Int) (n : Nat) : pick1 l t (n + 1) = if lagB l t n = true ∧ (pick1 l t n).length < 8 then pick1 l t n ++ [n] else pick1 l t n := by
 unfold pick1
 rw [List.range_succ, List.filter_append]
 generalize (List.range n).filter (lagB l t) = xs
 cases h : lagB l t n
 · simp [h]
 · simp only [List.filter_cons, h, List.filter_nil, if_true, true_and, List.length_take]
   rw [List.take_append]
   by_cases h8 : xs.length < 8
   · rw [if_pos (by omega), List.take_of_length_le (by omega), List.take_of_length_le (by simp; omega)]
   · rw [if_neg (by omega), show 8 - xs.length = 0 by omega]
     simp
theorem pick1_nodup (l : List CellS) (t : List Int) (n : Nat) : (pick1 l t n).Nodup := by
 unfold pick1
 exact (List.take_sublist _ _).nodup ((List.filter_sublist).nodup List.nodup_range)
theorem tellAll_len (l : List CellS) : ∀ (p : List Nat) (t : List Int), (tellAll l t p).length = t.length
 | [], t => rfl
 | k :: p, t => by
   show (tellAll l (t.set k (verAt l k)) p).length = _
   rw [tellAll_len l p]
   exact List.length_set
theorem tellAll_app (l : List CellS) (t : List Int) (p : List Nat) (k : Nat) : tellAll l t (p ++ [k]) = (tellAll l t p).set k (verAt l k) := by
 unfold tellAll
 rw [List.foldl_append]
 rfl
theorem tellAll_at (l : List CellS) : ∀ (p : List Nat) (t : List Int) (k : Nat), k < t.length → (tellAll l t p)[k]? = some (if k ∈ p then verAt l k else toldAt t k)
 | [], t, k, h => by
   show t[k]? = _
   rw [List.getElem?_eq_getElem h, if_neg (by simp), toldAt_of (List.getElem?_eq_getElem h)]
 | j :: p, t, k, h => by
   show (tellAll l (t.set j (verAt l j)) p)[k]? = _
   rw [tellAll_at l p _ k (by simpa using h)]
   by_cases hk : k ∈ p
   · rw [if_pos hk, if_pos (by simp [hk])]
   · rw [if_neg hk]
     by_cases hj : k = j
     · subst hj
       rw [if_pos (by simp), toldAt_of (List.getElem?_set_self h)]
     · rw [if_neg (by simp [hk, hj])]
       unfold toldAt
       rw [List.getElem?_set_ne (fun e => hj e.symm)]
theorem nodup_le : ∀ {l p : List Nat}, l.Nodup → (∀ x ∈ l, x ∈ p) → l.length ≤ p.length
 | [], p, _, _ => Nat.zero_le _
 | x :: l, p, hn, hs => by
   have hx := hs x (by simp)
   obtain ⟨h1, h2⟩ := List.nodup_cons.1 hn
   have := nodup_le (l := l) (p := p.erase x) h2 fun y hy => (List.mem_erase_of_ne (by rintro rfl; exact h1 hy)).2 (hs y (by simp [hy]))
   rw [List.length_erase_of_mem hx] at this
   have : 0 < p.length := List.length_pos_of_mem hx
   simp only [List.length_cons]
   omega
structure Swept (c0 j c : Nat) (p : List Nat) : Prop where
 cur : c = (c0 + j) % 32
 all : ∀ i, i < j → (c0 + i) % 32 ∈ p
theorem Swept.few {c0 j c : Nat} {p : List Nat} (h : Swept c0 j c p) (hc : c0 < 32) (hp : p.length < 8) : j < 32 := by
 by_cases hj : j < 32
 · exact hj
 · have : (List.range 32).length ≤ p.length := nodup_le List.nodup_range fun x hx => by
     have hx : x < 32 := List.mem_range.1 hx
     by_cases hle : c0 ≤ x
     · have := h.all (x - c0) (by omega)
       rwa [show (c0 + (x - c0)) % 32 = x by omega] at this
     · have := h.all (x + 32 - c0) (by omega)
       rwa [show (c0 + (x + 32 - c0)) % 32 = x by omega] at this
   simp at this
   omega
theorem Swept.step {c0 j c : Nat} {p : List Nat} (h : Swept c0 j c p) : Swept c0 (j + 1) ((c + 1) % 32) (if c ∈ p then p else p ++ [c]) := by
 have hc := h.cur
 refine ⟨by omega, fun i hi => ?_⟩
 have hsub : ∀ x, x ∈ p → x ∈ (if c ∈ p then p else p ++ [c]) := fun x hx => by
   split
   · exact hx
   · exact List.mem_append_left _ hx
 rcases Nat.lt_or_eq_of_le (Nat.le_of_lt_succ hi) with hi | rfl
 · exact hsub _ (h.all i hi)
 · rw [← hc]
   split
   · assumption
   · simp
theorem stage2_done {n c : Nat} {p : List Nat} (h : ¬ p.length < 8) : stage2 n c p = (c, p) := by
 cases n with
 | zero => rfl
 | succ n => unfold stage2; rw [if_neg h]
theorem stage2_step {n c : Nat} {p : List Nat} (h : p.length < 8) : stage2 (n + 1) c p = stage2 n ((c + 1) % 32) (if c ∈ p then p else p ++ [c]) := by
 conv => lhs; unfold stage2
 rw [if_pos h]
end Go.Proofs.YtogjajjdaoihdaaGreatDoor

namespace Go.Proofs.YtogjajjdaoihdaaGreatDoor
set_option maxRecDepth 20000
open Go Ev

section
variable {w : World} {bt g c : Nat} {T : MirS}
end
end Go.Proofs.YtogjajjdaoihdaaGreatDoor

namespace Go.Proofs.YtogjajjdaoihdaaGreatDoor
set_option maxRecDepth 20000
open Go Ev Go.Instr

def bEnt (k : Nat × Nat) : MapEntry := ⟨.int .i64 (k.1 : Int), .bool true, k.2⟩
def bFind (p : Nat) : List (Nat × Nat) → Nat → Option (Nat × Value)
 | [], _ => none
 | (a, _) :: r, n => if p = a then some (n, .bool true) else bFind p r (n + 1)
theorem bFind_no {p : Nat} : ∀ {l : List (Nat × Nat)} {n : Nat}, p ∉ l.map Prod.fst → bFind p l n = none
 | [], _, _ => rfl
 | (a, _) :: r, n, h => by
   simp only [List.map_cons, List.mem_cons, not_or] at h
   unfold bFind
   rw [if_neg h.1]
   exact bFind_no h.2
theorem bFind_yes {p : Nat} : ∀ {l : List (Nat × Nat)} {n : Nat}, p ∈ l.map Prod.fst → ∃ i, bFind p l n = some (i, .bool true)
 | [], _, h => by simp at h
 | (a, _) :: r, n, h => by
   unfold bFind
   by_cases hp : p = a
   · exact ⟨n, if_pos hp⟩
   · rw [if_neg hp]
     refine bFind_yes ?_
     simpa [hp] using h
theorem findNow_b (p : Nat) : ∀ (l : List (Nat × Nat)) (n : Nat), findNow (.int .i64) (.int .i64 (p : Int)) (l.map bEnt) n = some (bFind p l n)
 | [], _ => rfl
 | (a, c) :: r, n => by
   have ih := findNow_b p r (n + 1)
   rw [List.map_cons]
   unfold findNow bFind
   by_cases hp : p = a
   · subst hp
     simp [sameNow, bEnt]
   · have : ¬ (p : Int) = (a : Int) := by omega
     have h2 : sameNow (.int .i64) (.int .i64 (p : Int)) (bEnt (a, c)).key = some false := by
       simp [sameNow, bEnt, this]
     rw [h2, if_neg hp]
     exact ih
theorem findKey_b (p : Nat) (w : World) (l : List (Nat × Nat)) : (findKey 3 (.int .i64 (p : Int)) (l.map bEnt)).run Tryz.prog w = .ok (bFind p l 0) w := by
 have hu := Tryz.underlying3
 have h0 : (findKey 3 (.int .i64 (p : Int)) (l.map bEnt)) = (do match findNow (← underlying 3) (.int .i64 (p : Int)) (l.map bEnt) 0 with | some r => pure r | none => findAsking 3 (.int .i64 (p : Int)) (l.map bEnt)) := rfl
 rw [h0, Sem.run_bind, run_underlying hu, Result.andThen_ok, findNow_b]
 rfl
theorem ckInt (e : Bool) (a : Int) (w : World) : (checkKey e 10000 3 (.int .i64 a)).run Tryz.prog w = .ok () w := by cases e <;> kernel_rfl
def mapB (r : Nat) (ks : List Nat) : Ent := ⟨[r], fun w => ∃ (l : List (Nat × Nat)) (c : Nat), l.map Prod.fst = ks ∧ w.heap[r]? = some (.map (l.map bEnt).toArray c)⟩
theorem mapB_local (r : Nat) (ks : List Nat) : (mapB r ks).Local := fun w w' h hb => by
 have := h r (by simp [mapB])
 simpa [mapB, this] using hb
theorem bLook {w : World} {r : Nat} {ks : List Nat} (p : Nat) (h : (mapB r ks).holds w) : (Instr.lookup 443 (.map (some r)) (.int .i64 (p : Int)) false).run Tryz.prog w = .ok (.bool (decide (p ∈ ks))) w := by
 obtain ⟨l, c, rfl, hb⟩ := h
 have hm := Tryz.underlying443
 have hg : (getObj r).run Tryz.prog w = .ok (.map (l.map bEnt).toArray c) w := by simp [getObj, Sem.run, hb]
 have hz : (zeroValue 4).run Tryz.prog w = .ok (.bool false) w := by kernel_rfl
 have hk := findKey_b p w l
 simp only [Instr.lookup, Sem.run_bind, run_underlying hm, Result.andThen_ok, hg, Sem.run_pure, ckInt, hk]
 by_cases hp : p ∈ l.map Prod.fst
 · obtain ⟨i, h1⟩ := bFind_yes (n := 0) hp
   rw [decide_eq_true hp]
   simp [h1]
 · rw [decide_eq_false hp]
   simp [bFind_no hp, hz]
theorem Ev.St.lookB {w0 w : World} {S : Nat → Prop} {H : List Ent} (h : St w0 S w H) (i : Nat) {r : Nat} {ks : List Nat} {p : Nat} {k : Value → World → Prop} (hi : H[i]? = some (mapB r ks)) (hk : k (.bool (decide (p ∈ ks))) w) :
   RunC Tryz.prog (Instr.lookup 443 (.map (some r)) (.int .i64 (p : Int)) false) w k := ⟨_, _, bLook p (h.get i hi), hk⟩
theorem Ev.St.mkMapB {w0 w : World} {S : Nat → Prop} {H : List Ent} {k : Value → World → Prop} (h : St w0 S w H) (hk : ∀ r w', w0.heap.size ≤ r → St w0 S w' (H ++ [mapB r []]) → k (.map (some r)) w') : RunC Tryz.prog (Instr.makeMap 443 none) w k := by
 refine ⟨.map (some w.heap.size), { w with heap := w.heap.push (.map #[] 0) }, rfl, hk _ _ h.ext.size (h.made ⟨rfl, rfl, rfl, by simp, fun i hi _ => ?_⟩ (mapB_local _ _) ?_ ?_)⟩
 · show (w.heap.push _)[i]? = _
   rw [Array.getElem?_push, if_neg (by omega)]
 · refine ⟨[], 0, rfl, ?_⟩
   show (w.heap.push _)[w.heap.size]? = _
   rw [Array.getElem?_push, if_pos rfl]
   rfl
 · intro b hb
   obtain rfl : b = w.heap.size := by simpa [mapB] using hb
   simp
theorem Ev.St.insB {w0 w : World} {S : Nat → Prop} {H : List Ent} (h : St w0 S w H) (i : Nat) {r : Nat} {ks : List Nat} {p : Nat} {k : World → Prop} (hi : H[i]? = some (mapB r ks)) (hn : p ∉ ks)
   (hk : ∀ w', St w0 S w' (H.set i (mapB r (ks ++ [p]))) → k w') : RunU Tryz.prog (Instr.mapUpdate 443 (.map (some r)) (.int .i64 (p : Int)) (.bool true)) w k := by
 obtain ⟨l, c, rfl, hb⟩ := h.get i hi
 have hm := Tryz.underlying443
 have hg : (getObj r).run Tryz.prog w = .ok (.map (l.map bEnt).toArray c) w := by simp [getObj, Sem.run, hb]
 have hkk := findKey_b p w l
 rw [bFind_no hn] at hkk
 have hrun : (Instr.mapUpdate 443 (.map (some r)) (.int .i64 (p : Int)) (.bool true)).run Tryz.prog w = .ok () { w with heap := w.heap.setIfInBounds r (.map ((l ++ [(p, c)]).map bEnt).toArray (c + 1)) } := by
   simp only [Instr.mapUpdate, Sem.run_bind, run_underlying hm, Result.andThen_ok, hg, ckInt, hkk]
   simp [setObj, Sem.run, hb, bEnt]
 have hx : Ext (· = r) w { w with heap := w.heap.setIfInBounds r (.map ((l ++ [(p, c)]).map bEnt).toArray (c + 1)) } := ⟨rfl, rfl, rfl, by simp, fun j hj hs => by
   have : r ≠ j := fun e => hs e.symm
   simp [this]⟩
 refine ⟨_, hrun, hk _ (h.upd i hi hx (fun d hd => by simp [mapB, hd]) (mapB_local _ _) ⟨l ++ [(p, c)], c + 1, by simp, ?_⟩ fun d hd => .inl hd)⟩
 have := (Array.getElem?_eq_some_iff.1 hb).1
 show (w.heap.setIfInBounds r _)[r]? = _
 simp [this]

def encTel (bT : Nat) (X : TelS) : List Value := .pointer (some ⟨bT, 0, none⟩) :: (X.told.flatMap encI ++ [.int .i64 (X.cursor : Int)])
theorem tel_len {bT : Nat} {X : TelS} (h : X.told.length = 32) : (encTel bT X).length = 34 := by
 simp only [encTel, List.length_cons, List.length_append, flat_len codInt, h, List.length_nil]
theorem tel_told {bT : Nat} {X : TelS} {k : Nat} {v : Int} (h : X.told[k]? = some v) : (encTel bT X)[1 + k]? = some (.int .i64 v) := by
 have := flat_get codInt (j := 0) h rfl
 have lt := (List.getElem?_eq_some_iff.1 h).1
 rw [Nat.add_comm 1]
 unfold encTel
 rw [List.getElem?_cons_succ, List.getElem?_append_left (by rw [flat_len codInt]; omega)]
 simpa using this
theorem tel_cur {bT : Nat} {X : TelS} (h : X.told.length = 32) : (encTel bT X)[33]? = some (.int .i64 (X.cursor : Int)) := by
 unfold encTel
 rw [List.getElem?_cons_succ, List.getElem?_append_right (by rw [flat_len codInt]; omega), flat_len codInt, h]
 rfl
theorem tel_set {bT : Nat} {X : TelS} {k o : Nat} {v u : Int} (h : X.told[k]? = some u) (ho : o = 1 + k) : over (encTel bT X) o [.int .i64 v] = encTel bT ⟨X.told.set k v, X.cursor⟩ := by
 subst ho
 have lt := (List.getElem?_eq_some_iff.1 h).1
 rw [Nat.add_comm 1]
 unfold encTel
 rw [over_cons]
 have := over_mid [] (X.told.flatMap encI) [.int .i64 (X.cursor : Int)] [.int .i64 v] k (by rw [flat_len codInt]; simp; omega)
 simp only [List.nil_append, List.length_nil, Nat.zero_add] at this
 have h2 := flat_over codInt (j := 0) (y := v) (vs := [.int .i64 v]) h (by simp) rfl
 rw [Nat.mul_one, Nat.add_zero] at h2
 rw [this, h2]
theorem tel_move {bT : Nat} {X : TelS} {c : Nat} {i : Int} (h : X.told.length = 32) (hi : i = (c : Int)) : over (encTel bT X) 33 [.int .i64 i] = encTel bT ⟨X.told, c⟩ := by
 subst hi
 unfold encTel
 rw [over_cons]
 have := over_mid (X.told.flatMap encI) [.int .i64 (X.cursor : Int)] [] [.int .i64 (c : Int)] 0 (by simp)
 simp only [flat_len codInt, h, List.append_nil, Nat.mul_one, Nat.add_zero] at this
 rw [this]
 rfl

def tel0 : TelS := ⟨List.replicate 32 0, 0⟩
theorem tel_build (bT : Nat) (w : World) : (Instr.build 338 #[(0, .pointer (some ⟨bT, 0, none⟩))]).run Tryz.prog w = .ok (.agg (encTel bT tel0).toArray) w := by kernel_rfl
theorem tlNew_ok (bT : Nat) (w : World) : CallC Tryz.prog 130 #[.pointer (some ⟨bT, 0, none⟩)] w fun v w' => ∃ b, v = .pointer (some ⟨b, 0, none⟩) ∧ w.heap.size ≤ b ∧ Ext No w w' ∧ Blk w' b 338 (encTel bT tel0) := by
 have hb2 : ∀ k : Value → Prop, k (.agg (encTel bT tel0).toArray) → PureC Tryz.prog (Instr.build 338 #[(0, .pointer (some ⟨bT, 0, none⟩))]) k := fun k hk => PureC.of (tel_build bT) hk
 have ho : cellsL (.agg (encTel bT tel0).toArray) = encTel bT tel0 := by simp [cellsL]
 generalize Value.agg (encTel bT tel0).toArray = VV at hb2 ho
 refine fn_intro tabOk Tryz.func130 (by kernel_rfl) rfl Tryz.ntmps130 (lbO rfl) ?_
 have hS := St.start w No
 repeat' ((conv => whnf); first | refine RetC.mk ?_ | refine hb2 _ ?_)
 refine hS.new (fun b w' hb hS => ?_)
 rw [ho] at hS
 repeat' ((conv => whnf); first | refine RetC.mk ?_ | refine nzO ?_ | refine rgO ?_ | refine ixO ?_ | (first|apply brD|apply brND|apply brN|apply brI) <;> (intro))
 exact ⟨b, rfl, hb, hS.ext, hS.blk 0 rfl⟩

def telH (bT bx b1 b3 b4 b5 r : Nat) (X : TelS) (lv ov : Value) (l : List CellS) (p : List Nat) : List Ent :=
 [blk bx 338 (encTel bT X), blk b1 263 [.pointer (some ⟨bx, 0, none⟩)], ownL 209 10 encCell lv l, blk b3 131 [lv], mapB r p, blk b4 443 [.map (some r)], blk b5 131 [ov], ownL 209 10 encCell ov (outC l p)]
theorem outC_len (l : List CellS) (p : List Nat) : (outC l p).length = p.length := by simp [outC]

section
variable {w0 w : World} {S : Nat → Prop} {bT bx b1 b3 b4 b5 r cl : Nat} {al : Option Addr} {ov : Value} {X : TelS} {l : List CellS} {p : List Nat}
theorem Ev.St.ownBNe {w0 w : World} {S : Nat → Prop} {H : List Ent} (h : St w0 S w H) (i j : Nat) {α : Type} {b : Nat} {t e : TypeId} {cs : List Value} {sz : Nat} {enc : α → List Value} {v : Value} {xs : List α} (hi : H[i]? = some (Ev.blk b t cs)) (hj : H[j]? = some (ownL e sz enc v xs)) (hne : i ≠ j) : ¬ v.ownBlock = some b := by
 intro hv
 have := pairwise_at apart_symm h.apart hi hj hne b (by simp [Ev.blk])
 simp [ownL, own, hv] at this
theorem take_ok (k : Nat) (hk : k < 32) (hl : l.length = 32) (ht : X.told.length = 32) (hn : k ∉ p) (h8 : p.length < 8) (hS : St w0 S w (telH bT bx b1 b3 b4 b5 r X (.slice al 32 cl) ov l p)) :
   CallC Tryz.prog 343 #[.int .i64 (k : Int), .pointer (some ⟨b4, 0, none⟩), .pointer (some ⟨b3, 0, none⟩), .pointer (some ⟨b1, 0, none⟩), .pointer (some ⟨b5, 0, none⟩)] w fun _ w' => ∃ a' c', St w0 S w' (telH bT bx b1 b3 b4 b5 r ⟨X.told.set k (verAt l k), X.cursor⟩ (.slice al 32 cl) (.slice a' (p.length + 1) c') l (p ++ [k])) := by
 obtain ⟨x, hx⟩ : ∃ x, l[k]? = some x := ⟨_, List.getElem?_eq_getElem (by omega)⟩
 obtain ⟨u, hu⟩ : ∃ u, X.told[k]? = some u := ⟨_, List.getElem?_eq_getElem (by omega)⟩
 have hver := verAt_of hx
 have hcell := cellAt_of hx
 rw [hver]
 unfold telH at hS ⊢
 refine fn_intro tabOk Tryz.func343 (by kernel_rfl) rfl Tryz.ntmps343 (lbO rfl) ?_
 conv=>whnf
 refine hS.ld 5 rfl rfl ?_
 conv=>whnf
 refine hS.insB 4 rfl hn (fun w' hS => ?_)
 replace hS : St w0 S w' [blk bx 338 (encTel bT X), blk b1 263 [.pointer (some ⟨bx, 0, none⟩)], ownL 209 10 encCell (.slice al 32 cl) l, blk b3 131 [.slice al 32 cl], mapB r (p ++ [k]), blk b4 443 [.map (some r)], blk b5 131 [ov], ownL 209 10 encCell ov (outC l p)] := hS
 have h10 : ¬ b1 = bx := Blk.ne (hS.blk 1 rfl) (hS.blk 0 rfl) (by decide)
 have h30 : ¬ b3 = bx := Blk.ne (hS.blk 3 rfl) (hS.blk 0 rfl) (by decide)
 have h35 : ¬ b3 = b5 := fun e => pairwise_at apart_symm hS.apart (i := 3) (j := 6) rfl rfl (by decide) b3 (by simp [blk]) (by simp [blk, e])
 have h3o : ¬ ov.ownBlock = some b3 := hS.ownBNe 3 7 rfl rfl (by decide)
 conv=>whnf
 (refine drawS tabOk mixed [] ((· = bx)) [0, 1, 2, 3, 4, 5, 6, 7, 8, 9, 10] (by kernel_rfl) ?_; rintro w1 rfl; replace hS := hS.drew)
 obtain ⟨bl, ol, x', hx', _, hal, _, hc⟩ := (ownL_slc (G := fun _ => True) codCell (hS.get 2 rfl) fun _ _ => trivial).at hk
 obtain rfl := Option.some.inj (hx'.symm.trans hx)
 subst hal
 have hbl : ¬ bl = bx := hS.ownNe 0 2 rfl rfl (by decide) bl ol rfl
 have hb5 : ¬ bl = b5 := hS.ownNe 6 2 rfl rfl (by decide) bl ol rfl
 have hbo : ¬ ov.ownBlock = some bl := by
   intro hv
   have := pairwise_at apart_symm hS.apart (i := 2) (j := 7) rfl rfl (by decide) bl (by simp [ownL, own, Value.ownBlock])
   simp [ownL, own, hv] at this
 repeat' ((conv => whnf); first | refine ixO ?_ | refine hS.ldF 1 rfl rfl h10 ?_ | refine hS.ldF 3 rfl rfl h30 ?_ | refine ldFc (hc.one 1 rfl) hbl ?_)
 refine hS.stX 0 rfl (by rw [tel_len ht]; simp [cellsL]; omega) rfl (fun w2 hx2 hS => ?_)
 refine KeepC.mk hx2 ?_
 have hc := hx2.cells hc hbl
 have ho : over (encTel bT X) (0 + 1 + Int.toNat (k : Int) * 1) (cellsL (.int .i64 x'.ver)) = encTel bT ⟨X.told.set k x'.ver, X.cursor⟩ := tel_set hu (by simp)
 replace hS : St w0 S w2 [blk bx 338 (encTel bT ⟨X.told.set k x'.ver, X.cursor⟩), blk b1 263 [.pointer (some ⟨bx, 0, none⟩)], ownL 209 10 encCell (.slice (some ⟨bl, ol, none⟩) 32 cl) l, blk b3 131 [.slice (some ⟨bl, ol, none⟩) 32 cl], mapB r (p ++ [k]), blk b4 443 [.map (some r)], blk b5 131 [ov], ownL 209 10 encCell ov (outC l p)] := by rw [← ho]; exact hS
 clear hx2 ho
 conv=>whnf
 refine drawT tabOk mixed [0] (fun q => q = b5 ∨ ov.ownBlock = some q) (.take 1 (.take 2 (.take 3 (.take 4 (.alt 0 (.alt 5 (.alt 6 (.alt 7 .fin .fin) .fin) .fin) (.alt 5 (.alt 0 (.alt 6 (.alt 7 .fin .fin) .fin) .fin) .fin)))))) (by kernel_rfl) ?_
 rintro w1 rfl
 replace hS := hS.drew
 replace hc := (Ext.drawn No w2 (w2.drawn + 1)).cells hc id
 have no1 : ¬ (b3 = b5 ∨ ov.ownBlock = some b3) := fun e => e.elim h35 h3o
 have no2 : ¬ (bl = b5 ∨ ov.ownBlock = some bl) := fun e => e.elim hb5 hbo
 repeat' ((conv => whnf); first | refine ixO ?_ | refine hS.ldF 3 rfl rfl no1 ?_ | refine laFc (l := encCell x') rfl hc no2 ?_ | refine And.intro ?_ ?_)
 all_goals
   repeat' ((conv => whnf); first | refine hS.ld 6 rfl rfl ?_ | refine KeepC.mk (Ext.refl _ _) ?_ | refine KeepC.mk hx3.of_no ?_ | refine And.intro ?_ ?_ | exact trivial | refine hS.litX Tryz.underlying131 (sz := 10) (by kernel_rfl) (z := .agg (encCell ⟨0, 0, noFlow⟩).toArray) (by kernel_rfl) rfl rfl (cs := encCell x') (by rfl) (fun b9 w3 hb9 hx3 hS => ?_))
   refine hS.appX codCell 7 (ys := [x']) (G := fun _ => True) Tryz.underlying131 (bytes := 80) (by kernel_rfl) (z := .agg (encCell ⟨0, 0, noFlow⟩).toArray) (by kernel_rfl) rfl rfl (Slc.of_blk codCell (hS.blk 8 rfl) rfl (by simp) (fun _ _ => trivial) rfl) (by unfold maxLen; rw [outC_len]; omega) (by rw [outC_len]; omega) (fun a2 c2 w4 hx4 hS => ?_)
   refine KeepC.mk (hx3.of_no.trans (hx4.mono fun q hq => .inr hq)) ?_
   repeat' ((conv => whnf); first | refine And.intro ?_ ?_ | exact trivial)
   refine hS.stX 6 rfl (by simp [cellsL]) rfl (fun w5 hx5 hS => ?_)
   refine KeepC.mk ((hx3.of_no.trans (hx4.mono fun q hq => .inr hq)).trans (hx5.mono fun q hq => .inl hq)) ?_
   repeat' ((conv => whnf); first | refine RetC.mk ?_ | refine And.intro ?_ ?_ | exact trivial)
   have hoc : outC l p ++ [x'] = outC l (p ++ [k]) := by simp [outC, hcell]
   have hcl : (outC l p).length + 1 = p.length + 1 := by rw [outC_len]
   replace hS := hS.keep 8
   refine ⟨a2, c2, ?_⟩
   rw [hcl, hoc] at hS
   exact hS
end
end Go.Proofs.YtogjajjdaoihdaaGreatDoor

namespace Go.Proofs.YtogjajjdaoihdaaGreatDoor
set_option maxRecDepth 20000
open Go Ev

section
variable {w : World} {bT bx : Nat} {X : TelS} {T : MirS}
theorem tlNext_ok (hX : Blk w bx 338 (encTel bT X)) (hT : Blk w bT 330 (encM T)) (hl : T.cells.length = 32) (ht : X.told.length = 32) (hc : X.cursor < 32) :
   CallC Tryz.prog 321 #[.pointer (some ⟨bx, 0, none⟩)] w fun v w' => (∃ a' c', v = .slice a' (X.picks T.cells).length c') ∧ Ext (· = bx) w w' ∧ Blk w' bx 338 (encTel bT (X.next T.cells)) ∧ (ownL 209 10 encCell v (outC T.cells (X.picks T.cells))).holds w' ∧ Fresh w w' v := by
 have hbT : ¬ bT = bx := Blk.ne hT hX (by decide)
 have hlx := hX.lt
 generalize hL : T.cells = l at hl ⊢
 refine fn_intro tabOk Tryz.func321 (by kernel_rfl) rfl Tryz.ntmps321 (lbO rfl) ?_
 have hS := (St.start w (· = bx)).add (blk_local bx _ _) hX (by simp [blk]; exact hlx) (by simp)
 conv=>whnf
 refine hS.new (fun b1 w' _ hS => ?_)
 conv=>whnf
 refine hS.ld 1 rfl rfl ?_
 conv=>whnf
 refine hS.ld 0 rfl rfl ?_
 conv=>whnf
 refine (tcells_ok (hS.ext.blk hT hbT) (by rw [hL]; exact hl)).mono ?_
 rintro v w' ⟨al, cl, rfl, hx', ho, hf⟩
 rw [hL] at ho
 replace hS := hS.madeL hx' ho hf
 clear hx' ho hf
 conv=>whnf
 refine hS.new (fun b3 w' _ hS => ?_)
 conv=>whnf
 refine hS.st 3 rfl (lbO rfl) rfl (fun w' hS => ?_)
 conv=>whnf
 refine hS.mkMapB (fun r w' _ hS => ?_)
 conv=>whnf
 refine hS.new (fun b4 w' _ hS => ?_)
 conv=>whnf
 refine hS.st 5 rfl (lbO rfl) rfl (fun w' hS => ?_)
 conv=>whnf
 refine hS.new (fun b5 w' _ hS => ?_)
 have hS := hS.add (ownL_local (e := 209) (enc := encCell) (sz := 10) (v := .slice none 0 0) (xs := [])) (own_nil _ _ _) (by simp [ownL, own, Value.ownBlock]) (by simp [ownL, own, Value.ownBlock])
 replace hS : St w (· = bx) w' (telH bT bx b1 b3 b4 b5 r ⟨tellAll l X.told (pick1 l X.told 0), X.cursor⟩ (.slice al 32 cl) (.slice none 0 0) l (pick1 l X.told 0)) := hS
 conv=>whnf
 refine hS.ld 3 rfl rfl ?_
 conv=>whnf
 refine loopR tabOk (fun σ w' q => ∃ (k : Nat) (ov : Value), σ = [(19, .int .i64 k), (18, .int .i64 (32 : Nat)), (17, .slice al 32 cl), (6, .func (.func 343) #[] #[.pointer (some ⟨b4, 0, none⟩), .pointer (some ⟨b3, 0, none⟩), .pointer (some ⟨b1, 0, none⟩), .pointer (some ⟨b5, 0, none⟩)]), (5, .pointer (some ⟨b5, 0, none⟩)), (4, .pointer (some ⟨b4, 0, none⟩)), (3, .pointer (some ⟨b3, 0, none⟩)), (1, .pointer (some ⟨b1, 0, none⟩))] ∧ q = 32 - k ∧ k ≤ 32 ∧ (∃ a' c', ov = .slice a' (pick1 l X.told k).length c') ∧ St w (· = bx) w' (telH bT bx b1 b3 b4 b5 r ⟨tellAll l X.told (pick1 l X.told k), X.cursor⟩ (.slice al 32 cl) ov l (pick1 l X.told k)))
   (σ' := [(19, .int .i64 ((0 : Nat) : Int)), (18, .int .i64 (32 : Nat)), (17, .slice al 32 cl), (6, .func (.func 343) #[] #[.pointer (some ⟨b4, 0, none⟩), .pointer (some ⟨b3, 0, none⟩), .pointer (some ⟨b1, 0, none⟩), .pointer (some ⟨b5, 0, none⟩)]), (5, .pointer (some ⟨b5, 0, none⟩)), (4, .pointer (some ⟨b4, 0, none⟩)), (3, .pointer (some ⟨b3, 0, none⟩)), (1, .pointer (some ⟨b1, 0, none⟩))]) (n := 32) ⟨rfl, rfl, rfl, rfl, rfl, rfl, rfl, rfl, trivial⟩ ⟨0, _, rfl, rfl, Nat.zero_le _, ⟨none, 0, rfl⟩, hS⟩ ?_
 clear hS
 rintro _ w1 q ⟨k, _, rfl, rfl, hk, ⟨a', c', rfl⟩, hS⟩
 have hplt : ∀ x ∈ pick1 l X.told k, x < k := fun x hx => pick1_lt hx
 have hp8 := pick1_len l X.told k
 have hps := pick1_succ l X.told k
 have htl := (tellAll_len l (pick1 l X.told k) X.told).trans ht
 conv=>whnf
 refine brD (fun h3 => ?_) (fun h3 => ?_)
 · have hk : k < 32 := by omega
   have hkn : k ∉ pick1 l X.told k := fun h => Nat.lt_irrefl _ (hplt k h)
   have htk := tellAll_at l (pick1 l X.told k) X.told k (by omega)
   rw [if_neg hkn] at htk
   obtain ⟨x, hx⟩ : ∃ x, l[k]? = some x := ⟨_, List.getElem?_eq_getElem (by omega)⟩
   have hver := verAt_of hx
   generalize pick1 l X.told k = p at hS hplt hp8 hps htl hkn htk
   unfold telH at hS
   obtain ⟨bl, ol, x', hx', _, rfl, _, hcx⟩ := (ownL_slc (G := fun _ => True) codCell (hS.get 2 rfl) fun _ _ => trivial).at hk
   obtain rfl := Option.some.inj (hx'.symm.trans hx)
   conv=>whnf
   refine ixO ?_
   conv=>whnf
   refine lac (l := encCell x') rfl hcx ?_
   conv=>whnf
   refine hS.new (fun b8 w' _ hS => ?_)
   conv=>whnf
   refine hS.st 8 rfl (lbO rfl) rfl (fun w' hS => ?_)
   conv=>whnf
   (refine drawS tabOk mixed [] No [0, 1, 2, 3, 4, 5, 6, 7, 8, 9, 10, 11, 12, 13] (by kernel_rfl) ?_; rintro w1 rfl; replace hS := hS.drew)
   have hd := tel_told (bT := bT) (X := ⟨tellAll l X.told p, X.cursor⟩) htk
   repeat' ((conv => whnf); first | refine RetC.mk ?_ | refine nzO ?_ | refine rgO ?_ | refine ixO ?_ | refine hS.ldF 8 rfl rfl id ?_ | refine hS.ldF 1 rfl rfl id ?_ | refine ixO ?_ | refine hS.ldF 0 rfl (o := 0 + 1 + Int.toNat (k : Int) * 1) (by rw [← hd]; congr 1; simp) id ?_ | refine hS.ldF 6 rfl rfl id ?_ | (first|apply brD|apply brND|apply brN|apply brI) <;> (intro))
   · rename_i h1 h2
     have hlag : lagB l X.told k = true := decide_eq_true (by rw [hver]; exact h1)
     rw [if_pos ⟨hlag, by omega⟩] at hps
     conv=>whnf
     refine (take_ok k hk hl htl hkn (by omega) (hS.keep 8)).mono ?_
     clear hS
     rintro v w' ⟨a2, c2, hS⟩
     have htt : (tellAll l X.told p).set k (verAt l k) = tellAll l X.told (p ++ [k]) := (tellAll_app l X.told p k).symm
     dsimp only at hS
     rw [htt, ← hps] at hS
     have hpl : p.length + 1 = (pick1 l X.told (k + 1)).length := by rw [hps]; simp
     rw [hpl] at hS
     conv=>whnf
     refine rgO ?_
     conv=>whnf
     refine LoopE.mk ⟨_, [(19, .int .i64 ((k + 1 : Nat) : Int)), (18, _), (17, _), (6, _), (5, _), (4, _), (3, _), (1, _)], ?_, ⟨rfl, rfl, rfl, rfl, rfl, rfl, rfl, rfl, trivial⟩, ⟨k + 1, _, rfl, rfl, by omega, ⟨a2, c2, rfl⟩, hS⟩⟩
     omega
   · rename_i h1 h2
     rw [if_neg (fun h => h2 (by omega))] at hps
     rw [← hps] at hS
     refine LoopE.mk ⟨_, [(19, .int .i64 ((k + 1 : Nat) : Int)), (18, _), (17, _), (6, _), (5, _), (4, _), (3, _), (1, _)], ?_, ⟨rfl, rfl, rfl, rfl, rfl, rfl, rfl, rfl, trivial⟩, ⟨k + 1, _, rfl, rfl, by omega, ⟨a', c', by rw [hps]⟩, hS.keep 8⟩⟩
     omega
   · rename_i h1
     rw [if_neg (fun h => absurd (hver.trans h1) (of_decide_eq_true h.1))] at hps
     rw [← hps] at hS
     refine LoopE.mk ⟨_, [(19, .int .i64 ((k + 1 : Nat) : Int)), (18, _), (17, _), (6, _), (5, _), (4, _), (3, _), (1, _)], ?_, ⟨rfl, rfl, rfl, rfl, rfl, rfl, rfl, rfl, trivial⟩, ⟨k + 1, _, rfl, rfl, by omega, ⟨a', c', by rw [hps]⟩, hS.keep 8⟩⟩
     omega
 · obtain rfl : k = 32 := by omega
   have hnd := pick1_nodup l X.told 32
   have hpk : X.picks l = (stage2 32 X.cursor (pick1 l X.told 32)).2 := rfl
   have hnx : X.next l = ⟨tellAll l X.told (X.picks l), (stage2 32 X.cursor (pick1 l X.told 32)).1⟩ := rfl
   have hsw : Swept X.cursor 0 X.cursor (pick1 l X.told 32) := ⟨by omega, fun i hi => absurd hi (Nat.not_lt_zero _)⟩
   clear hps
   generalize hs2 : stage2 32 X.cursor (pick1 l X.told 32) = z2 at hpk hnx
   generalize pick1 l X.told 32 = p at hS hplt hp8 htl hnd hsw hs2
   conv=>whnf
   refine loopR tabOk (fun σ w' q => ∃ (j c : Nat) (p : List Nat) (ov : Value), σ = [(6, .func (.func 343) #[] #[.pointer (some ⟨b4, 0, none⟩), .pointer (some ⟨b3, 0, none⟩), .pointer (some ⟨b1, 0, none⟩), .pointer (some ⟨b5, 0, none⟩)]), (5, .pointer (some ⟨b5, 0, none⟩)), (4, .pointer (some ⟨b4, 0, none⟩)), (3, .pointer (some ⟨b3, 0, none⟩)), (1, .pointer (some ⟨b1, 0, none⟩))] ∧ q = 32 - j ∧ p.length ≤ 8 ∧ c < 32 ∧ Swept X.cursor j c p ∧ stage2 (32 - j) c p = z2 ∧ (∃ a' c', ov = .slice a' p.length c') ∧ St w (· = bx) w' (telH bT bx b1 b3 b4 b5 r ⟨tellAll l X.told p, c⟩ (.slice al 32 cl) ov l p))
     (σ' := [(6, .func (.func 343) #[] #[.pointer (some ⟨b4, 0, none⟩), .pointer (some ⟨b3, 0, none⟩), .pointer (some ⟨b1, 0, none⟩), .pointer (some ⟨b5, 0, none⟩)]), (5, .pointer (some ⟨b5, 0, none⟩)), (4, .pointer (some ⟨b4, 0, none⟩)), (3, .pointer (some ⟨b3, 0, none⟩)), (1, .pointer (some ⟨b1, 0, none⟩))]) (n := 32) ⟨rfl, rfl, rfl, rfl, rfl, trivial⟩ ⟨0, X.cursor, p, _, rfl, rfl, hp8, hc, hsw, hs2, ⟨a', c', rfl⟩, hS⟩ ?_
   clear hS hp8 hplt htl hnd hsw hs2
   clear p
   rintro _ w1 q ⟨j, c, p, _, rfl, rfl, hp8, hc32, hsw, hs2, ⟨a', c', rfl⟩, hS⟩
   have htl := (tellAll_len l p X.told).trans ht
   unfold telH at hS
   have hcur : (encTel bT ⟨tellAll l X.told p, c⟩)[33]? = some (.int .i64 (c : Int)) := tel_cur htl
   have h10 : ¬ b1 = bx := Blk.ne (hS.blk 1 rfl) (hS.blk 0 rfl) (by decide)
   conv=>whnf
   refine hS.ld 6 rfl rfl ?_
   conv=>whnf
   refine brD (fun h3 => ?_) (fun h3 => ?_)
   · have h8 : p.length < 8 := by omega
     have hj := hsw.few hc h8
     have hstep := hsw.step
     rw [show 32 - j = (32 - (j + 1)) + 1 by omega, stage2_step h8] at hs2
     conv=>whnf
     refine hS.ld 1 rfl rfl ?_
     conv=>whnf
     refine hS.ld 0 rfl hcur ?_
     conv=>whnf
     refine hS.ld 5 rfl rfl ?_
     conv=>whnf
     refine hS.lookB 4 rfl ?_
     by_cases hcp : c ∈ p
     · rw [decide_eq_true hcp]
       rw [if_pos hcp] at hs2 hstep
       conv=>whnf
       have hcur2 : (encTel bT ⟨tellAll l X.told p, c⟩)[33]? = some (.int .i64 (c : Int)) := tel_cur htl
       (refine drawS tabOk mixed [4] (· = bx) [0, 1, 2, 3, 4, 5, 6, 7, 8, 9] (by kernel_rfl) ?_; rintro w1 rfl; replace hS := hS.drew)
       repeat' ((conv => whnf); first | refine RetC.mk ?_ | refine nzO ?_ | refine rgO ?_ | refine ixO ?_ | refine hS.ldF 1 rfl rfl h10 ?_ | refine hS.ld 0 rfl hcur2 ?_ | refine KeepC.mk (Ext.refl _ _) ?_ | (first|apply brD|apply brND|apply brN|apply brI) <;> (intro))
       refine hS.stX 0 rfl (by rw [tel_len htl]; simp [cellsL]) rfl (fun w2 hx2 hS => ?_)
       refine KeepC.mk hx2 ?_
       have hmv : over (encTel bT ⟨tellAll l X.told p, c⟩) (0 + 33) (cellsL (.int .i64 (((c : Int) + 1).tmod 32))) = encTel bT ⟨tellAll l X.told p, (c + 1) % 32⟩ := tel_move htl (by rw [Int.tmod_eq_emod_of_nonneg (by omega)]; omega)
       replace hS : St w (· = bx) w2 (telH bT bx b1 b3 b4 b5 r ⟨tellAll l X.told p, (c + 1) % 32⟩ (.slice al 32 cl) (.slice a' p.length c') l p) := by
         unfold telH
         rw [← hmv]
         exact hS
       conv=>whnf
       refine LoopE.mk ⟨_, [(6, _), (5, _), (4, _), (3, _), (1, _)], ?_, ⟨rfl, rfl, rfl, rfl, rfl, trivial⟩, ⟨j + 1, (c + 1) % 32, p, _, rfl, rfl, hp8, Nat.mod_lt _ (by omega), hstep, hs2, ⟨a', c', rfl⟩, hS⟩⟩
       omega
     · rw [decide_eq_false hcp]
       rw [if_neg hcp] at hs2 hstep
       conv=>whnf
       refine (take_ok c hc32 hl htl hcp h8 hS).mono ?_
       clear hS
       rintro v w' ⟨a2, c2, hS⟩
       have htt : (tellAll l X.told p).set c (verAt l c) = tellAll l X.told (p ++ [c]) := (tellAll_app l X.told p c).symm
       dsimp only at hS
       have hpl : p.length + 1 = (p ++ [c]).length := by simp
       rw [htt, hpl] at hS
       have htl2 := (tellAll_len l (p ++ [c]) X.told).trans ht
       have hp9 : (p ++ [c]).length ≤ 8 := by simp; omega
       unfold telH at hS
       conv=>whnf
       have hcur2 : (encTel bT ⟨tellAll l X.told (p ++ [c]), c⟩)[33]? = some (.int .i64 (c : Int)) := tel_cur htl2
       (refine drawS tabOk mixed [4] (· = bx) [0, 1, 2, 3, 4, 5, 6, 7, 8, 9] (by kernel_rfl) ?_; rintro w1 rfl; replace hS := hS.drew)
       repeat' ((conv => whnf); first | refine RetC.mk ?_ | refine nzO ?_ | refine rgO ?_ | refine ixO ?_ | refine hS.ldF 1 rfl rfl h10 ?_ | refine hS.ld 0 rfl hcur2 ?_ | refine KeepC.mk (Ext.refl _ _) ?_ | (first|apply brD|apply brND|apply brN|apply brI) <;> (intro))
       refine hS.stX 0 rfl (by rw [tel_len htl2]; simp [cellsL]) rfl (fun w2 hx2 hS => ?_)
       refine KeepC.mk hx2 ?_
       have hmv : over (encTel bT ⟨tellAll l X.told (p ++ [c]), c⟩) (0 + 33) (cellsL (.int .i64 (((c : Int) + 1).tmod 32))) = encTel bT ⟨tellAll l X.told (p ++ [c]), (c + 1) % 32⟩ := tel_move htl2 (by rw [Int.tmod_eq_emod_of_nonneg (by omega)]; omega)
       replace hS : St w (· = bx) w2 (telH bT bx b1 b3 b4 b5 r ⟨tellAll l X.told (p ++ [c]), (c + 1) % 32⟩ (.slice al 32 cl) (.slice a2 (p ++ [c]).length c2) l (p ++ [c])) := by
         unfold telH
         rw [← hmv]
         exact hS
       conv=>whnf
       refine LoopE.mk ⟨_, [(6, _), (5, _), (4, _), (3, _), (1, _)], ?_, ⟨rfl, rfl, rfl, rfl, rfl, trivial⟩, ⟨j + 1, (c + 1) % 32, (p ++ [c]), _, rfl, rfl, hp9, Nat.mod_lt _ (by omega), hstep, hs2, ⟨a2, c2, rfl⟩, hS⟩⟩
       omega
   · have h8 : ¬ p.length < 8 := by omega
     rw [stage2_done h8] at hs2
     subst hs2
     rw [show X.picks l = p from hpk] at hnx ⊢
     rw [hnx]
     conv=>whnf
     refine hS.ld 6 rfl rfl ?_
     repeat' ((conv => whnf); first | refine RetC.mk ?_ | refine nzO ?_ | refine rgO ?_ | refine ixO ?_ | (first|apply brD|apply brND|apply brN|apply brI) <;> (intro))
     refine ⟨⟨a', c', rfl⟩, hS.ext, hS.blk 0 rfl, hS.get 7 rfl, fun g hg => ?_⟩
     obtain ⟨h1, h2⟩ := hS.may _ (List.mem_of_getElem? (i := 7) rfl) g (by simpa [ownL, own] using hg)
     refine ⟨h1.resolve_left ?_, h2⟩
     rintro rfl
     exact hS.ownBNe 0 7 rfl rfl (by decide) hg
end
end Go.Proofs.YtogjajjdaoihdaaGreatDoor

namespace Go.Proofs.YtogjajjdaoihdaaGreatDoor
set_option maxRecDepth 20000
open Go Ev

section
variable {w : World} {bt g c bl gl cl : Nat} {T : MirS} {X : TelS}
end
end Go.Proofs.YtogjajjdaoihdaaGreatDoor

namespace Go.Proofs.YtogjajjdaoihdaaGreatDoor
set_option maxRecDepth 20000
open Go Ev

structure S2 (c0 : Nat) (p z : List Nat) (c : Nat) : Prop where
 len : z.length = 8
 nd : z.Nodup
 lt : ∀ x ∈ z, x < 32
 sub : ∀ x ∈ p, x ∈ z
 cur : c < 32
theorem stage2_law {c0 : Nat} (hc0 : c0 < 32) : ∀ (n j c : Nat) (p : List Nat), n + j = 32 → Swept c0 j c p → c < 32 → p.length ≤ 8 → p.Nodup → (∀ x ∈ p, x < 32) → S2 c0 p (stage2 n c p).2 (stage2 n c p).1
 | n, j, c, p, hn, hs, hc, hp, hd, hl => by
   by_cases h8 : p.length < 8
   · have hj := hs.few hc0 h8
     obtain ⟨m, rfl⟩ : ∃ m, n = m + 1 := ⟨n - 1, by omega⟩
     rw [stage2_step h8]
     have ih := stage2_law hc0 m (j + 1) ((c + 1) % 32) (if c ∈ p then p else p ++ [c]) (by omega) hs.step (Nat.mod_lt _ (by omega)) (by
         split
         · exact hp
         · simp
           omega)
       (by
         split
         · exact hd
         · rename_i h
           rw [List.nodup_append]
           exact ⟨hd, by simp, fun a ha b hb => by simp at hb; subst hb; rintro rfl; exact h ha⟩)
       (by
         split
         · exact hl
         · intro x hx
           rcases List.mem_append.1 hx with h | h
           · exact hl x h
           · simp at h; omega)
     refine ⟨ih.len, ih.nd, ih.lt, fun x hx => ih.sub x ?_, ih.cur⟩
     split
     · exact hx
     · exact List.mem_append_left _ hx
   · rw [stage2_done h8]
     exact ⟨by dsimp only; omega, hd, hl, fun _ h => h, hc⟩
theorem picks_law {X : TelS} (l : List CellS) (hc : X.cursor < 32) : S2 X.cursor (pick1 l X.told 32) (X.picks l) (X.next l).cursor :=
 stage2_law hc 32 0 X.cursor _ rfl ⟨by omega, fun i hi => absurd hi (Nat.not_lt_zero _)⟩ hc (pick1_len _ _ _) (pick1_nodup _ _ _) fun _ h => pick1_lt h

theorem told_next {X : TelS} (l : List CellS) (ht : X.told.length = 32) : (X.next l).told.length = 32 := (tellAll_len l _ _).trans ht
end Go.Proofs.YtogjajjdaoihdaaGreatDoor

namespace Go.Proofs.YtogjajjdaoihdaaGreatDoor
set_option maxRecDepth 20000
open Go Ev

section
variable {w : World} {bt g c bl gl cl : Nat} {T : MirS} {X : TelS}
end
end Go.Proofs.YtogjajjdaoihdaaGreatDoor

namespace Go.Proofs.YtogjajjdaoihdaaGreatDoor
set_option maxRecDepth 20000
open Go Ev Go.Instr

theorem ck (e : Bool) (a b : Int) (w : World) : (checkKey e 10000 424 (.agg #[.int .i64 a, .int .i64 b])).run Tryz.prog w = .ok () w := by cases e <;> kernel_rfl

theorem run_int (d : Nat) (a b : Int) (w : World) : (Op.equalIn (d + 1) 3 (.int .i64 a) (.int .i64 b)).run Tryz.prog w = .ok (a == b) w := by
 have hu := Tryz.underlying3
 simp [Op.equalIn, underlying, hu]
theorem part_k (i : Nat) (a b : Int) (v : Value) (h : [Value.int .i64 a, Value.int .i64 b][i]? = some v) (w : World) : (part 3 #[.int .i64 a, .int .i64 b] i).run Tryz.prog w = .ok v w :=
 part_run1 (cs := [.int .i64 a, .int .i64 b]) ⟨_, Tryz.underlying3⟩ h (by kernel_rfl) w
theorem eqKey (a b c d : Int) (w : World) : (Op.equalIn 10000 424 (.agg #[.int .i64 a, .int .i64 b]) (.agg #[.int .i64 c, .int .i64 d])).run Tryz.prog w = .ok (a == c && b == d) w := by
 have hS : Tryz.prog.underlying 424 = some (.struct (Tryz.prog.fieldsOf 424)) := by kernel_rfl
 rw [show (10000 : Nat) = 9999 + 1 from rfl, run_equalIn_struct w 9999 424 _ _ hS (by kernel_rfl)]
 simp only [Program.fieldsOf, Tryz.underlying424]
 have p0 := part_k 0 a b (.int .i64 a) rfl
 have p1 := part_k 1 a b (.int .i64 b) rfl
 have q0 := part_k 0 c d (.int .i64 c) rfl
 have q1 := part_k 1 c d (.int .i64 d) rfl
 have r : ∀ x y w, (Op.equalIn 9999 3 (.int .i64 x) (.int .i64 y)).run Tryz.prog w = .ok (x == y) w := fun x y w => run_int 9998 x y w
 simp only [Op.eqFields, show ("proto" : String) ≠ "_" by decide, show ("state" : String) ≠ "_" by decide, ne_eq, not_false_eq_true, if_true, Sem.run_bind, p0, p1, q0, q1, Result.andThen_ok, r]
 cases h1 : a == c <;> cases h2 : b == d <;> simp [Sem.run_bind, p0, p1, q0, q1, r, h2]

def kEnt (k : (Int × Int × Int) × Nat) : MapEntry := ⟨.agg #[.int .i64 k.1.1, .int .i64 k.1.2.1], .int .i64 k.1.2.2, k.2⟩
def kFind (p s : Int) : List ((Int × Int × Int) × Nat) → Nat → Option (Nat × Value)
 | [], _ => none
 | ((a, b, v), _) :: r, n => match p == a && s == b with | true => some (n, .int .i64 v) | false => kFind p s r (n + 1)
def kLook (p s : Int) : List ((Int × Int × Int) × Nat) → Int
 | [] => 0
 | ((a, b, v), _) :: r => if p = a ∧ s = b then v else kLook p s r
def kObj (l : List ((Int × Int × Int) × Nat)) (c : Nat) : Obj := .map (l.map kEnt).toArray c

theorem kFind_look (p s : Int) : ∀ (l : List ((Int × Int × Int) × Nat)) (n : Nat), kFind p s l n = none ∧ kLook p s l = 0 ∨ ∃ i, kFind p s l n = some (i, .int .i64 (kLook p s l))
 | [], n => .inl ⟨rfl, rfl⟩
 | ((a, b, v), c) :: r, n => by
   unfold kFind kLook
   cases h : p == a && s == b
   · rw [if_neg (by rintro ⟨rfl, rfl⟩; simp at h)]
     exact kFind_look p s r (n + 1)
   · rw [if_pos (by simpa using h)]
     exact .inr ⟨_, rfl⟩

theorem findAsking_k (p s : Int) (w : World) : ∀ (l : List ((Int × Int × Int) × Nat)) (n : Nat), (findAsking 424 (.agg #[.int .i64 p, .int .i64 s]) (l.map kEnt) n).run Tryz.prog w = .ok (kFind p s l n) w
 | [], n => rfl
 | ((a, b, v), c) :: r, n => by
   rw [List.map_cons, findAsking, Sem.run_bind]
   rw [show Op.equal 424 (.agg #[.int .i64 p, .int .i64 s]) (kEnt ((a, b, v), c)).key = Op.equalIn 10000 424 (.agg #[.int .i64 p, .int .i64 s]) (.agg #[.int .i64 a, .int .i64 b]) from rfl, eqKey, Result.andThen_ok]
   unfold kFind
   cases p == a && s == b
   · exact findAsking_k p s w r (n + 1)
   · rfl

theorem findKey_k (p s : Int) (w : World) (l : List ((Int × Int × Int) × Nat)) : (findKey 424 (.agg #[.int .i64 p, .int .i64 s]) (l.map kEnt)).run Tryz.prog w = .ok (kFind p s l 0) w := by
 have hu := Tryz.underlying424
 have h0 : (findKey 424 (.agg #[.int .i64 p, .int .i64 s]) (l.map kEnt)) = (do match findNow (← underlying 424) (.agg #[.int .i64 p, .int .i64 s]) (l.map kEnt) 0 with | some r => pure r | none => findAsking 424 (.agg #[.int .i64 p, .int .i64 s]) (l.map kEnt)) := rfl
 rw [h0, Sem.run_bind, run_underlying hu, Result.andThen_ok]
 cases l with
 | nil => rfl
 | cons x r =>
   obtain ⟨⟨a, b, v⟩, c⟩ := x
   exact findAsking_k p s w (((a, b, v), c) :: r) 0

theorem mapLook {r : Nat} {w : World} {l : List ((Int × Int × Int) × Nat)} {clock : Nat} (p s : Int) (hb : w.heap[r]? = some (kObj l clock)) :
   (Instr.lookup 421 (.map (some r)) (.agg #[.int .i64 p, .int .i64 s]) false).run Tryz.prog w = .ok (.int .i64 (kLook p s l)) w := by
 have hm := Tryz.underlying421
 have hg : (getObj r).run Tryz.prog w = .ok (kObj l clock) w := by simp [getObj, Sem.run, hb, kObj]
 have hz : (zeroValue 3).run Tryz.prog w = .ok (.int .i64 0) w := by kernel_rfl
 have hk := findKey_k p s w l
 unfold kObj at hg
 simp only [Instr.lookup, Sem.run_bind, run_underlying hm, Result.andThen_ok, hg, Sem.run_pure, ck, hk]
 rcases kFind_look p s l 0 with ⟨h1, h2⟩ | ⟨i, h1⟩
 · simp [h1, h2, hz, Sem.run_bind]
 · simp [h1]

theorem mapIns {r : Nat} {w : World} {l : List ((Int × Int × Int) × Nat)} {clock : Nat} (a b v : Int) (hb : w.heap[r]? = some (kObj l clock)) (hn : kFind a b l 0 = none) :
   (Instr.mapUpdate 421 (.map (some r)) (.agg #[.int .i64 a, .int .i64 b]) (.int .i64 v)).run Tryz.prog w = .ok () { w with heap := w.heap.setIfInBounds r (kObj (l ++ [((a, b, v), clock)]) (clock + 1)) } := by
 have hg : (getObj r).run Tryz.prog w = .ok (kObj l clock) w := by simp [getObj, Sem.run, hb, kObj]
 have hm := Tryz.underlying421
 unfold kObj at hg
 have hk := findKey_k a b w l
 rw [hn] at hk
 simp only [Instr.mapUpdate, Sem.run_bind, run_underlying hm, Result.andThen_ok, hg, ck, hk]
 simp [setObj, Sem.run, hb, kObj, kEnt]

def kmap (r : Nat) (l : List ((Int × Int × Int) × Nat)) (c : Nat) : Ent := ⟨[r], fun w => w.heap[r]? = some (kObj l c)⟩
theorem kmap_local (r : Nat) (l : List ((Int × Int × Int) × Nat)) (c : Nat) : (kmap r l c).Local := fun w w' h hb => by
 have := h r (by simp [kmap])
 simpa [kmap, this] using hb

theorem Ev.St.mkMap {w0 w : World} {H : List Ent} {k : Value → World → Prop} (h : St w0 No w H) (hk : ∀ r w', w0.heap.size ≤ r → St w0 No w' (H ++ [kmap r [] 0]) → k (.map (some r)) w') : RunC Tryz.prog (Instr.makeMap 421 none) w k := by
 refine ⟨.map (some w.heap.size), { w with heap := w.heap.push (.map #[] 0) }, rfl, hk _ _ h.ext.size (h.made ⟨rfl, rfl, rfl, by simp, fun i hi _ => ?_⟩ (kmap_local _ _ _) ?_ ?_)⟩
 · show (w.heap.push _)[i]? = _
   rw [Array.getElem?_push, if_neg (by omega)]
 · show (w.heap.push _)[w.heap.size]? = _
   rw [Array.getElem?_push, if_pos rfl]
   rfl
 · intro b hb
   obtain rfl : b = w.heap.size := by simpa [kmap] using hb
   simp
theorem Ev.St.ins {w0 w : World} {H : List Ent} (h : St w0 No w H) (i : Nat) {r : Nat} {l : List ((Int × Int × Int) × Nat)} {c : Nat} {a b v : Int} {k : World → Prop} (hi : H[i]? = some (kmap r l c)) (hn : kFind a b l 0 = none)
   (hk : ∀ w', Ext (· = r) w w' → St w0 No w' (H.set i (kmap r (l ++ [((a, b, v), c)]) (c + 1))) → k w') : RunU Tryz.prog (Instr.mapUpdate 421 (.map (some r)) (.agg #[.int .i64 a, .int .i64 b]) (.int .i64 v)) w k := by
 have hb : w.heap[r]? = some (kObj l c) := h.get i hi
 have hx : Ext (· = r) w { w with heap := w.heap.setIfInBounds r (kObj (l ++ [((a, b, v), c)]) (c + 1)) } := ⟨rfl, rfl, rfl, by simp, fun j hj hs => by
   have : r ≠ j := fun e => hs e.symm
   simp [this]⟩
 refine ⟨_, mapIns a b v hb hn, hk _ hx (h.upd i hi hx (fun d hd => by simp [kmap, hd]) (kmap_local _ _ _) ?_ fun d hd => .inl hd)⟩
 have := (Array.getElem?_eq_some_iff.1 hb).1
 show (w.heap.setIfInBounds r _)[r]? = _
 simp [this]

def timeS (p s : Int) : Int := if p = 1 then 60 else if p ≠ 2 then 0 else if s = 1 then 10 else if s = 2 then 100 else if s = 3 then 5 else 0
end Go.Proofs.YtogjajjdaoihdaaGreatDoor

namespace Go.Proofs.YtogjajjdaoihdaaGreatDoor
set_option maxRecDepth 20000
open Go Ev

def nextS (p s f : Int) (o : Bool) : Int × Bool :=
 if p ≠ 2 then (s, false) else if band f 8 ≠ 0 then (0, true) else if band f 4 ≠ 0 then (3, false)
 else if s = 1 ∧ o = false ∧ band f 1 ≠ 0 ∧ band f 2 ≠ 0 then (2, false) else (s, false)

theorem next_ok (p s f : Int) (o : Bool) (w : World) : CallC Tryz.prog 291 #[.int .i64 p, .int .i64 s, .int .i64 f, .bool o] w fun v w' => v = .tuple #[.int .i64 (nextS p s f o).1, .bool (nextS p s f o).2] ∧ w = w' := by
 refine fn_intro tabOk Tryz.func291 (by kernel_rfl) rfl Tryz.ntmps291 (lbO rfl) ?_
 repeat' ((conv => whnf); first | refine RetC.mk ?_ | refine nzO ?_ | refine rgO ?_ | refine ixO ?_ | (first|apply brD|apply brND|apply brN|apply brI) <;> (intro))
 all_goals simp_all [nextS]

def beginS (p f : Int) : Int × Nat :=
 if p ≠ 1 ∧ p ≠ 2 ∨ f < 0 ∨ 15 < f then (0, 2) else if p = 1 then (2, 0) else if f ≠ 1 then (0, 9) else (1, 0)
theorem beginS_code (p f : Int) : (beginS p f).2 < 12 := by
 unfold beginS
 repeat' split
 all_goals decide

theorem begin_ok {E : Nat → Addr} {n : Nat} (p f : Int) (w : World) (hE : Errs w E n [2, 9]) : CallC Tryz.prog 296 #[.int .i64 p, .int .i64 f] w fun v w' => v = .tuple #[.int .i64 (beginS p f).1, errV E (beginS p f).2] ∧ Ext No w w' := by
 refine fn_intro tabOk Tryz.func296 (by kernel_rfl) rfl Tryz.ntmps296 (lbO rfl) ?_
 have hS := St.start w No
 repeat' ((conv => whnf); first | refine RetC.mk ?_ | refine nzO ?_ | refine rgO ?_ | refine ixO ?_ | refine hS.ldrF (hE.at_ 2 rfl) id id ?_ | refine hS.ldrF (hE.at_ 9 rfl) id id ?_ | (refine drawL tabOk mixed [] No [0, 1, 2] rfl (by kernel_rfl) ?_; rintro w1 rfl; replace hS := hS.drew) | (first|apply brD|apply brND|apply brN|apply brI) <;> (intro))
 all_goals refine ⟨?_, hS.ext⟩
 all_goals clear hE hS
 all_goals unfold beginS
 all_goals ((repeat' split) <;> first | rfl | (exfalso; omega) | (simp_all [over, cellsL]; done) | (simp_all [over, cellsL]; omega) | trace_state)

theorem times_ok (w : World) : CallC Tryz.prog 327 #[] w fun v w' => ∃ r l c, v = .map (some r) ∧ Ext No w w' ∧ w'.heap[r]? = some (kObj l c) ∧ ∀ p s, p ≠ 1 → kLook p s l = timeS p s := by
 refine fn_intro tabOk Tryz.func327 (by kernel_rfl) rfl Tryz.ntmps327 (lbO rfl) ?_
 conv=>whnf
 refine drawT tabOk mixed [] No (.take 1 (.take 3 (.take 5 (.alt 0
   (.alt 2 (.alt 4 (.alt 6 (.take 7 (.take 8 .fin)) .fin) (.alt 6 (.alt 4 (.take 7 (.take 8 .fin)) .fin) .fin))
   (.alt 4 (.alt 2 (.alt 6 (.take 7 (.take 8 .fin)) .fin) (.alt 6 (.alt 2 (.take 7 (.take 8 .fin)) .fin) .fin))
   (.alt 6 (.alt 2 (.alt 4 (.take 7 (.take 8 .fin)) .fin) (.alt 4 (.alt 2 (.take 7 (.take 8 .fin)) .fin) .fin)) .fin))) .fin)))) (by kernel_rfl) ?_
 intro w1 hw1
 have hS := St.start w1 No
 have hx0 : Ext No w w1 := by subst hw1; exact Ext.drawn _ _ _
 clear hw1
 repeat' ((conv => whnf); first | refine RetC.mk ?_ | refine And.intro ?_ ?_ | refine hS.mkMap (fun r w' hr hS => ?_) | refine hS.ins 0 rfl rfl (fun w' hx hS => ?_) | refine KeepC.mk hS.ext ?_)
 all_goals refine ⟨_, _, _, rfl, hx0.trans hS.ext, hS.get 0 rfl, fun p s hp => ?_⟩
 all_goals clear hS hx0
 all_goals simp only [List.nil_append, List.cons_append, kLook, timeS]
 all_goals (by_cases h2 : p = 2 <;> by_cases s1 : s = 1 <;> by_cases s2 : s = 2 <;> by_cases s3 : s = 3 <;> simp_all)

theorem time_ok (p s : Int) (w : World) : CallC Tryz.prog 294 #[.int .i64 p, .int .i64 s] w fun v w' => v = .int .i64 (timeS p s) ∧ Ext No w w' := by
 refine fn_intro tabOk Tryz.func294 (by kernel_rfl) rfl Tryz.ntmps294 (lbO rfl) ?_
 conv=>whnf
 refine brD (fun h => ?_) (fun h => ?_)
 · repeat' ((conv => whnf); first | refine RetC.mk ?_ | refine nzO ?_ | refine rgO ?_ | refine ixO ?_ | (first|apply brD|apply brND|apply brN|apply brI) <;> (intro))
   exact ⟨by simp [timeS, h], Ext.refl _ _⟩
 · (conv => whnf)
   refine (times_ok w).mono ?_
   rintro v w' ⟨r, l, c, rfl, hx, hr, hk⟩
   conv=>whnf
   refine ⟨_, _, mapLook p s hr, ?_⟩
   repeat' ((conv => whnf); first | refine RetC.mk ?_ | refine nzO ?_ | refine rgO ?_ | refine ixO ?_ | (first|apply brD|apply brND|apply brN|apply brI) <;> (intro))
   exact ⟨by rw [hk p s h], hx⟩

end Go.Proofs.YtogjajjdaoihdaaGreatDoor
