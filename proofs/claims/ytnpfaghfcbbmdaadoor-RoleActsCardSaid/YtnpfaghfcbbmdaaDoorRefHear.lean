import Derived.Test.YtnpfaghfcbbmdaaDoorRole
namespace Go.Proofs.YtnpfaghfcbbmdaaDoor
open Go Ev
section
variable {w : World} {b : Nat} {r : RoleS}
theorem stepPut {N d : Nat} {v : Value} {σ : Slots} {k : Slots → Prop} (h : Nat.blt d N = true) (hk : k ((d, v) :: σ)) : put1 N (some d) v σ k := by
  simp only [put1]
  rw [h]
  exact hk
theorem stepAssign {P : Program} {τ : Tab} {N d : Nat} {ops rest : List Oper} {x : Operand} {v : Value} {ty : TypeId} {pos : String} {after : Array Edge} {σ : Slots} {w : World} {Q : Slots → World → Prop} (hx : ro σ x = some v) (hd : Nat.blt d N = true) (hk : evOps P τ N ops rest Q ((d, v) :: σ) w) :
    evOps P τ N ops (⟨some d, .assign x, ty, pos, after, none⟩ :: rest) Q σ w := by
  unfold evOps
  simp only [guardK, isPure, ifaces, pureOp, hx, put1, hd]
  exact hk
theorem stepMove {P : Program} {τ : Tab} {N d : Nat} {ops rest : List Oper} {x : Operand} {v : Value} {ty : TypeId} {pos : String} {after : Array Edge} {σ : Slots} {w : World} {Q : Slots → World → Prop} (hx : ro σ x = some v) (hd : Nat.blt d N = true) (hk : evOps P τ N ops rest Q ((d, v) :: σ) w) :
    evOps P τ N ops (⟨some d, .move x, ty, pos, after, none⟩ :: rest) Q σ w := by
  unfold evOps
  simp only [guardK, isPure, ifaces, pureOp, hx, put1, hd]
  exact hk
theorem stepNil {P : Program} {τ : Tab} {N d : Nat} {ops rest : List Oper} {x : Operand} {a : Addr} {ty : TypeId} {pos : String} {after : Array Edge} {σ : Slots} {w : World} {Q : Slots → World → Prop} (hx : ro σ x = some (.pointer (some a))) (hd : Nat.blt d N = true) (hk : evOps P τ N ops rest Q ((d, .pointer (some a)) :: σ) w) :
    evOps P τ N ops (⟨some d, .nilCheck x, ty, pos, after, none⟩ :: rest) Q σ w := by
  unfold evOps
  simp only [guardK, isPure, ifaces, pureOp, hx, put1, hd]
  exact hk
theorem stepFA {P : Program} {τ : Tab} {N d t i b o off sz n : Nat} {g : Bool} {fs : List (Nat × Nat × Bool)} {z : List Value} {ops rest : List Oper} {x : Operand} {ty : TypeId} {pos : String} {after : Array Edge} {σ : Slots} {w : World} {Q : Slots → World → Prop} (hx : ro σ x = some (.pointer (some ⟨b, o, none⟩))) (ht : tl τ t = some ⟨n, .struct fs, z⟩) (hf : fs[i]? = some (off, sz, g)) (hd : Nat.blt d N = true) (hk : evOps P τ N ops rest Q ((d, .pointer (some ⟨b, o + off, none⟩)) :: σ) w) :
    evOps P τ N ops (⟨some d, .fieldAddr t x i, ty, pos, after, none⟩ :: rest) Q σ w := by
  unfold evOps
  simp only [guardK, isPure, ifaces, pureOp, hx, ht, hf, put1, hd]
  exact hk
theorem stepSt {P : Program} {τ : Tab} {N t b o n : Nat} {kd : TK} {z : List Value} {ops rest : List Oper} {x y : Operand} {v : Value} {ty : TypeId} {pos : String} {after : Array Edge} {σ : Slots} {w : World} {Q : Slots → World → Prop} (hx : ro σ x = some (.pointer (some ⟨b, o, none⟩))) (hy : ro σ y = some v) (ht : tl τ t = some ⟨n, kd, z⟩) (hn : Nat.beq (cellsL v).length n = true) (hk : StC w b o (cellsL v) fun w' => evOps P τ N ops rest Q σ w') :
    evOps P τ N ops (⟨none, .store t x y, ty, pos, after, none⟩ :: rest) Q σ w := by
  unfold evOps
  simp only [guardK, isPure, worldOp, hx, hy, ht, hn, put1]
  exact hk
theorem evNil {P : Program} {τ : Tab} {N : Nat} {ops : List Oper} {σ : Slots} {w : World} {Q : Slots → World → Prop} (h : Q σ w) : evOps P τ N ops [] Q σ w := h
theorem evSeq {P : Program} {τ : Tab} {N : Nat} {x y : Code} {Q : Exit → Slots → World → Prop} {σ : Slots} {w : World} (h : ev P τ N x (fun e σ w => match e with
    | .normal => ev P τ N y Q σ w
    | e => Q e σ w) σ w) : ev P τ N (.seq x y) Q σ w := by
  unfold ev
  exact h
theorem evReg {P : Program} {τ : Tab} {N id : Nat} {ops : Array Oper} {Q : Exit → Slots → World → Prop} {σ : Slots} {w : World} (h : evOps P τ N ops.toList ops.toList (fun σ w => Q .normal σ w) σ w) : ev P τ N (.region id ops false) Q σ w := by
  unfold ev
  exact h
theorem ref_hear (e : Int) (hb : Blk w b 49 (encRole r)) : CallC Tryd.prog 32 #[.pointer (some ⟨b, 0, none⟩), .int .i64 e] w fun v w' => v = .bool (r.hear e).1 ∧ Ext (· = b) w w' ∧ Blk w' b 49 (encRole (r.hear e).2) := by
  refine fn_intro tabOk Tryd.func32 (by kernel_rfl) rfl Tryd.ntmps32 (Nat.le_of_ble_eq_true rfl) ?_
  have hS := (St.start w (· = b)).add (blk_local b _ _) hb (by simp [blk]; exact hb.lt) (by simp)
  (conv => whnf)
  refine brD (fun h1 => ?_) (fun h1 => ?_)
  · repeat' ((conv => whnf); first | refine RetC.mk ?_ | refine NzC.mk (by decide) ?_ | refine RngC.mk (by omega) (by omega) ?_ | refine IdxC.mk (by omega) (by omega) ?_ | refine brD (fun _ => ?_) (fun _ => ?_) | refine brND (fun _ => ?_) (fun _ => ?_) | refine brN (fun _ => ?_) (fun _ => ?_) | refine brI (fun _ => ?_) (fun _ => ?_))
    rw [show r.hear e = (false, r) from if_pos (.inl h1)]
    exact ⟨rfl, hS.ext, hS.blk 0 rfl⟩
  (conv => whnf)
  refine brD (fun h2 => ?_) (fun h2 => ?_)
  · repeat' ((conv => whnf); first | refine RetC.mk ?_ | refine NzC.mk (by decide) ?_ | refine RngC.mk (by omega) (by omega) ?_ | refine IdxC.mk (by omega) (by omega) ?_ | refine brD (fun _ => ?_) (fun _ => ?_) | refine brND (fun _ => ?_) (fun _ => ?_) | refine brN (fun _ => ?_) (fun _ => ?_) | refine brI (fun _ => ?_) (fun _ => ?_))
    rw [show r.hear e = (false, r) from if_pos (.inr h2)]
    exact ⟨rfl, hS.ext, hS.blk 0 rfl⟩
  (conv => whnf)
  refine hS.ld 0 rfl rfl ?_
  (conv => whnf)
  refine brD (fun h3 => ?_) (fun h3 => ?_)
  · (conv => whnf)
    refine hS.ld 0 rfl (v := .bool r.active) rfl ?_
    refine stepPut rfl ?_
    refine stepAssign rfl rfl ?_
    refine evNil ?_
    refine evSeq ?_
    refine evReg ?_
    refine stepMove (d := 22) rfl rfl ?_
    refine stepMove (d := 23) rfl rfl ?_
    refine stepNil (d := 24) rfl rfl ?_
    refine stepFA (d := 25) rfl rfl rfl rfl ?_
    refine stepSt rfl rfl rfl rfl ?_
    refine hS.st 0 rfl (Nat.le_of_ble_eq_true rfl) rfl (fun w' hS => ?_)
    refine evNil ?_
    refine evReg ?_
    refine stepMove (d := 26) rfl rfl ?_
    refine stepNil (d := 27) rfl rfl ?_
    refine stepFA (d := 28) rfl rfl rfl rfl ?_
    refine stepSt rfl rfl rfl rfl ?_
    refine hS.st 0 rfl (Nat.le_of_ble_eq_true rfl) rfl (fun w' hS => ?_)
    refine evNil ?_
    (conv => whnf)
    refine hS.ld 0 rfl rfl ?_
    (conv => whnf)
    refine hS.ld 0 rfl rfl ?_
    (conv => whnf)
    refine brD (fun h5 => ?_) (fun h5 => ?_)
    · (conv => whnf)
      refine hS.st 0 rfl (Nat.le_of_ble_eq_true rfl) rfl (fun w' hS => ?_)
      repeat' ((conv => whnf); first | refine RetC.mk ?_ | refine NzC.mk (by decide) ?_ | refine RngC.mk (by omega) (by omega) ?_ | refine IdxC.mk (by omega) (by omega) ?_ | refine brD (fun _ => ?_) (fun _ => ?_) | refine brND (fun _ => ?_) (fun _ => ?_) | refine brN (fun _ => ?_) (fun _ => ?_) | refine brI (fun _ => ?_) (fun _ => ?_))
      rw [show r.hear e = (r.active, { r with epoch := e, active := false, silence := 0 }) by
        unfold RoleS.hear
        rw [if_neg (by omega)]
        simp [h3]]
      exact ⟨rfl, hS.ext, hS.blk 0 rfl⟩
    · exact absurd rfl h5
  (conv => whnf)
  refine hS.ld 0 rfl rfl ?_
  (conv => whnf)
  refine brN (fun h4 => ?_) (fun h4 => ?_)
  · (conv => whnf)
    refine hS.ld 0 rfl rfl ?_
    (conv => whnf)
    refine brD (fun h5 => ?_) (fun h5 => ?_)
    · (conv => whnf)
      refine hS.st 0 rfl (Nat.le_of_ble_eq_true rfl) rfl (fun w' hS => ?_)
      repeat' ((conv => whnf); first | refine RetC.mk ?_ | refine NzC.mk (by decide) ?_ | refine RngC.mk (by omega) (by omega) ?_ | refine IdxC.mk (by omega) (by omega) ?_ | refine brD (fun _ => ?_) (fun _ => ?_) | refine brND (fun _ => ?_) (fun _ => ?_) | refine brN (fun _ => ?_) (fun _ => ?_) | refine brI (fun _ => ?_) (fun _ => ?_))
      rw [show r.hear e = (false, { r with silence := 0 }) by
        unfold RoleS.hear
        rw [if_neg (by omega)]
        simp [h3, h4, h5]]
      exact ⟨rfl, hS.ext, hS.blk 0 rfl⟩
    · repeat' ((conv => whnf); first | refine RetC.mk ?_ | refine NzC.mk (by decide) ?_ | refine RngC.mk (by omega) (by omega) ?_ | refine IdxC.mk (by omega) (by omega) ?_ | refine brD (fun _ => ?_) (fun _ => ?_) | refine brND (fun _ => ?_) (fun _ => ?_) | refine brN (fun _ => ?_) (fun _ => ?_) | refine brI (fun _ => ?_) (fun _ => ?_))
      rw [show r.hear e = (false, r) by
        unfold RoleS.hear
        rw [if_neg (by omega)]
        simp [h3, h5]]
      exact ⟨rfl, hS.ext, hS.blk 0 rfl⟩
  · repeat' ((conv => whnf); first | refine RetC.mk ?_ | refine NzC.mk (by decide) ?_ | refine RngC.mk (by omega) (by omega) ?_ | refine IdxC.mk (by omega) (by omega) ?_ | refine brD (fun _ => ?_) (fun _ => ?_) | refine brND (fun _ => ?_) (fun _ => ?_) | refine brN (fun _ => ?_) (fun _ => ?_) | refine brI (fun _ => ?_) (fun _ => ?_))
    rw [show r.hear e = (false, r) by
      unfold RoleS.hear
      rw [if_neg (by omega)]
      simp [h3, h4]]
    exact ⟨rfl, hS.ext, hS.blk 0 rfl⟩
end
end Go.Proofs.YtnpfaghfcbbmdaaDoor
