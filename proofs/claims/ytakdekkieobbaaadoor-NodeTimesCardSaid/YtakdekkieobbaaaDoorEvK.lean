
/-
  One step of the evaluator at a time, by name: where a value is too large to be reckoned out.
-/
import Derived.Test.YtakdekkieobbaaaDoorEvJ
namespace Go.Proofs.YtakdekkieobbaaaDoor.Ev
open Go
section
variable {P : Program} {τ : Tab} {N d : Nat} {σ : Slots} {w : World} {ops rest : List Oper} {x y : Operand} {v : Value} {ty : TypeId} {pos : String} {after : Array Edge} {Q : Slots → World → Prop}
theorem sPut {k : Slots → Prop} (h : Nat.blt d N = true) (hk : k ((d, v) :: σ)) : put1 N (some d) v σ k := by
  simp only [put1]
  rw [h]
  exact hk
theorem sAsg (hx : ro σ x = some v) (hd : Nat.blt d N = true) (hk : evOpsR P τ N ops Q rest ((d, v) :: σ) w) :
    evOpsR P τ N ops Q (⟨some d, .assign x, ty, pos, after, none⟩ :: rest) σ w := by
  show evStep P τ N ops ⟨some d, .assign x, ty, pos, after, none⟩ (evOpsR P τ N ops Q rest) σ w
  unfold evStep
  simp only [guardK, isPure, ifaces, pureOp, hx, put1, hd]
  exact hk
theorem sMov (hx : ro σ x = some v) (hd : Nat.blt d N = true) (hk : evOpsR P τ N ops Q rest ((d, v) :: σ) w) :
    evOpsR P τ N ops Q (⟨some d, .move x, ty, pos, after, none⟩ :: rest) σ w := by
  show evStep P τ N ops ⟨some d, .move x, ty, pos, after, none⟩ (evOpsR P τ N ops Q rest) σ w
  unfold evStep
  simp only [guardK, isPure, ifaces, pureOp, hx, put1, hd]
  exact hk
theorem sNil {a : Addr} (hx : ro σ x = some (.pointer (some a))) (hd : Nat.blt d N = true) (hk : evOpsR P τ N ops Q rest ((d, .pointer (some a)) :: σ) w) :
    evOpsR P τ N ops Q (⟨some d, .nilCheck x, ty, pos, after, none⟩ :: rest) σ w := by
  show evStep P τ N ops ⟨some d, .nilCheck x, ty, pos, after, none⟩ (evOpsR P τ N ops Q rest) σ w
  unfold evStep
  simp only [guardK, isPure, ifaces, pureOp, hx, put1, hd]
  exact hk
theorem sFA {t i b o off sz n : Nat} {g : Bool} {fs : List (Nat × Nat × Bool)} {z : List Value} (hx : ro σ x = some (.pointer (some ⟨b, o, none⟩))) (ht : tl τ t = some ⟨n, .struct fs, z⟩) (hf : fs[i]? = some (off, sz, g)) (hd : Nat.blt d N = true) (hk : evOpsR P τ N ops Q rest ((d, .pointer (some ⟨b, o + off, none⟩)) :: σ) w) :
    evOpsR P τ N ops Q (⟨some d, .fieldAddr t x i, ty, pos, after, none⟩ :: rest) σ w := by
  show evStep P τ N ops ⟨some d, .fieldAddr t x i, ty, pos, after, none⟩ (evOpsR P τ N ops Q rest) σ w
  unfold evStep
  simp only [guardK, isPure, ifaces, pureOp, hx, ht, hf, put1, hd]
  exact hk
theorem sSt {t b o n : Nat} {kd : TK} {z : List Value} (hx : ro σ x = some (.pointer (some ⟨b, o, none⟩))) (hy : ro σ y = some v) (ht : tl τ t = some ⟨n, kd, z⟩) (hn : Nat.beq (cellsL v).length n = true) (hk : StC w b o (cellsL v) fun w' => evOpsR P τ N ops Q rest σ w') :
    evOpsR P τ N ops Q (⟨none, .store t x y, ty, pos, after, none⟩ :: rest) σ w := by
  show evStep P τ N ops ⟨none, .store t x y, ty, pos, after, none⟩ (evOpsR P τ N ops Q rest) σ w
  unfold evStep
  simp only [guardK, isPure, worldOp, hx, hy, ht, hn, put1]
  exact hk
theorem sLd {t b o n : Nat} {kd : TK} {z : List Value} (hx : ro σ x = some (.pointer (some ⟨b, o, none⟩))) (ht : tl τ t = some ⟨n, kd, z⟩) (hg : kd.agg = true) (hd : Nat.blt d N = true) (hk : LdA w b o n fun v => evOpsR P τ N ops Q rest ((d, v) :: σ) w) :
    evOpsR P τ N ops Q (⟨some d, .load t x, ty, pos, after, none⟩ :: rest) σ w := by
  show evStep P τ N ops ⟨some d, .load t x, ty, pos, after, none⟩ (evOpsR P τ N ops Q rest) σ w
  unfold evStep
  simp only [guardK, isPure, worldOp, hx, ht, hg, put1, hd]
  exact hk
theorem sBox {t : TypeId} (hx : ro σ x = some v) (hd : Nat.blt d N = true) (hk : NewC w t (cellsL v) fun v w => evOpsR P τ N ops Q rest ((d, v) :: σ) w) :
    evOpsR P τ N ops Q (⟨some d, .box t x, ty, pos, after, none⟩ :: rest) σ w := by
  show evStep P τ N ops ⟨some d, .box t x, ty, pos, after, none⟩ (evOpsR P τ N ops Q rest) σ w
  unfold evStep
  simp only [guardK, isPure, worldOp, hx, put1, hd]
  exact hk
theorem sBuild {t : TypeId} {parts : Array (Nat × Operand)} {ps : List (Nat × Value)} {n : Nat} {fs : List (Nat × Nat × Bool)} (ht : tl τ t = some ⟨n, .struct fs, []⟩) (hp : ∀ k : List (Nat × Value) → Prop, k ps → roParts σ parts.toList k) (hr : ∀ w, (Instr.build t ps.toArray).run P w = .ok v w) (hd : Nat.blt d N = true) (hk : evOpsR P τ N ops Q rest ((d, v) :: σ) w) :
    evOpsR P τ N ops Q (⟨some d, .build t parts, ty, pos, after, none⟩ :: rest) σ w := by
  show evStep P τ N ops ⟨some d, .build t parts, ty, pos, after, none⟩ (evOpsR P τ N ops Q rest) σ w
  unfold evStep
  simp only [guardK, isPure, ifaces, pureOp, ht]
  refine hp _ ?_
  refine PureC.of hr ?_
  exact sPut hd hk
theorem eNil (h : Q σ w) : evOpsR P τ N ops Q [] σ w := h
theorem eNext {K : EV} {Q : EQ} (h : K Q σ w) : seqQ K Q .normal σ w := h
theorem eSeq {a b : Code} {Q : EQ} (h : evR P τ N a (seqQ (evR P τ N b) Q) σ w) : evR P τ N (.seq a b) Q σ w := h
theorem eReg {id : Nat} {ops : Array Oper} {Q : EQ} (h : evOpsR P τ N ops.toList (Q .normal) ops.toList σ w) : evR P τ N (.region id ops false) Q σ w := h
end

theorem St.stX {w0 w : World} {S : Nat → Prop} {H : List Ent} (h : St w0 S w H) (i : Nat) {b o : Nat} {t : TypeId} {cs vs : List Value} {k : World → Prop} (hi : H[i]? = some (Ev.blk b t cs)) (hle : o + vs.length ≤ cs.length) (h1 : vs.all isOne = true)
    (hk : ∀ w', Ext (· = b) w w' → St w0 S w' (H.set i (Ev.blk b t (over cs o vs))) → k w') : StC w b o vs k := by
  have hb := h.blk i hi
  have hx : Ext (· = b) w (setBlk w b t (over cs o vs)) := Ext.set (S := (· = b)) (b := b) rfl t _
  exact ⟨t, cs, hb, hle, by simpa using h1, hk _ hx (h.upd i hi (T := (· = b)) hx (fun c hc => by simp [Ev.blk, hc]) (blk_local _ _ _) (setBlk_blk hb.lt) (fun c hc => .inl hc))⟩

/-- An element of an array value. -/
theorem index_run {α : Type} {P : Program} {sz : Nat} {enc : α → List Value} (C : Codec sz enc) {t e : TypeId} {xs : List α} {k : Nat} {x : α} {i : Int} (hu : P.underlying t = some (.array xs.length e)) (hi : (P.info? e).isSome = true) (hd : ∃ d, P.underlying e = some d) (hc : P.cellsOf e = sz) (hg : aggB P e = true) (hx : xs[k]? = some x) (hk : i = (k : Int)) (w : World) :
    (Instr.index t (.agg (xs.flatMap enc).toArray) (.int .i64 i)).run P w = .ok (.agg (enc x).toArray) w := by
  subst hk
  have hlt := (List.getElem?_eq_some_iff.1 hx).1
  have hs : k * sz + sz ≤ (xs.flatMap enc).length := by
    rw [flat_len C]
    have : (k + 1) * sz ≤ xs.length * sz := Nat.mul_le_mul_right _ hlt
    rw [Nat.succ_mul] at this
    exact this
  have h1 := part_run (P := P) (cs := xs.flatMap enc) (off := k * sz) hi hd hc hs hg w
  have h2 := flat_sub C (j := 0) (n := sz) hx (by omega)
  have h3 : (enc x).take sz = enc x := List.take_of_length_le (by rw [C.len]; exact Nat.le_refl _)
  rw [Nat.add_zero, List.drop_zero, h3] at h2
  rw [h2] at h1
  have hcw := cellsOf_run (P := P) hi w
  rw [hc] at hcw
  simp [Instr.index, underlying, hu, asIntOf, asAgg, hcw, h1, hlt]
end Go.Proofs.YtakdekkieobbaaaDoor.Ev
