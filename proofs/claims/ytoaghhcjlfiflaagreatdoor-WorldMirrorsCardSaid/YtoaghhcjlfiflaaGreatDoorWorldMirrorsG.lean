/-
  Texts of this claim, joined: WorldD, WorldE, NoteC, LoopB, Wakes, WorldF, WorldG, Play, PlayB, PlayC, PlayD, OneS, OneR, OneU, BornW, RefHear, RefNum, RefSum, RefByt, RefBytW, RefOpen, RefCell, RefNode, RefRole, RefNodeT, RefNodeN, NodeL, LawW, StepW, ActW, WorldOne, TellA.
-/
import Derived.Test.YtoaghhcjlfiflaaGreatDoorWorldMirrorsF
import Derived.Lib.BufferWrite

namespace Go.Proofs.YtoaghhcjlfiflaaGreatDoor
open Go Ev
section
variable {w w' : World} {X : WorldA} {W : WorldS} {E : Nat → Addr} {q m : Nat}
theorem ndel2_ok {i : Nat} {g o : Nat} (hfa : X.fa = some ⟨g, o, none⟩) (hl : X.vs.length = W.fly.length) (hi : i < W.fly.length) (hm : W.fly.length ≤ 200) {w2 : World} (ho : (ownL 107 5 encNV (.slice X.fa W.fly.length X.fc) X.vs).holds w2) :
    CallC Tryz.prog 53 #[.slice (some ⟨g, o, none⟩) W.fly.length X.fc, .int .i64 (i : Int), .int .i64 ((i : Int) + 1)] w2 fun v w' =>
      v = .slice (some ⟨g, o, none⟩) (W.fly.eraseIdx i).length X.fc ∧ Ext (fun b => (Value.slice X.fa W.fly.length X.fc).ownBlock = some b) w2 w' ∧ (ownL 107 5 encNV (.slice X.fa (W.fly.eraseIdx i).length X.fc) (X.vs.eraseIdx i)).holds w' := by
  rw [show (W.fly.eraseIdx i).length = X.vs.length - 1 by rw [List.length_eraseIdx, if_pos hi, hl], ← hfa]
  rw [← hl] at ho ⊢
  exact ndel_ok ho (by omega) (by omega)
def gotH (X : WorldA) (W : WorldS) (i : Nat) (Y Z : SideA) (s t : SideS) : List Ent := [blk X.w 96 (encWorld X (W.off i)), blk Y.s 101 (encSide Y s), blk Z.s 101 (encSide Z t), ownL 92 5 encRule (.slice X.ra W.rules.length X.rc) W.rules, ownL 107 5 encNV (.slice X.fa (W.fly.eraseIdx i).length X.fc) (X.vs.eraseIdx i), cellsE X.vs W.fly, ownL 64 2 encEv (.slice X.ea W.events.length X.ec) W.events]
theorem St.gotOff {w0 w : World} {S : Nat → Prop} {i : Nat} {Y Z : SideA} {s t : SideS} {B : List Ent} (hS : St w0 S w (gotH X W i Y Z s t ++ B)) : St w0 S w (fixH (X.off i) (W.off i) Y Z s t ++ B) := by
  have hc1 : (cellsE X.vs W.fly).holds w := hS.get 5 rfl
  exact hS.upd 5 rfl (T := No) (Ext.refl _ _) (fun _ h => h.elim) cellsE_local (cellsE_erase hc1 i) (fun b hb => .inl (erase_foot hb))
theorem wdeliver_ok (k : Int) (h : Stands E q m w X W) : CallC Tryz.prog 18 #[.pointer (some ⟨X.w, 0, none⟩), .int .i64 k] w fun v w' => v = errV E (W.deliver k).1 ∧ ∃ X', X'.w = X.w ∧ Turns w w' (worldH X W) (worldH X' (W.deliver k).2) := by
  refine fn_intro tabOk Tryz.func18 (by kernel_rfl) rfl Tryz.ntmps18 (Nat.le_of_ble_eq_true rfl) ?_
  (conv => whnf)
  refine (wat_ok k h).mono ?_
  rintro v w1 ⟨rfl, hx⟩
  by_cases hu : W.at_ k = 0
  case neg =>
    obtain ⟨j, hj⟩ : ∃ j, W.at_ k = j + 1 := ⟨W.at_ k - 1, by omega⟩
    rw [show W.deliver k = (W.at_ k, W) from if_pos hu, hj]
    repeat' ((conv => whnf); first | refine RetC.mk ?_ | refine NzC.mk (by decide) ?_ | refine RngC.mk (by omega) (by omega) ?_ | refine IdxC.mk (by omega) (by omega) ?_ | refine brD (fun _ => ?_) (fun _ => ?_) | refine brND (fun _ => ?_) (fun _ => ?_) | refine brN (fun _ => ?_) (fun _ => ?_) | refine brI (fun _ => ?_) (fun _ => ?_))
    exact ⟨rfl, X, rfl, Turns.of_no h.has hx⟩
  rw [hu]
  obtain ⟨i, rfl, hi⟩ := at_in hu
  have hflen := h.ok.fly
  have hc : (cellsE X.vs W.fly).holds w := h.has.get 5 rfl
  have hl : X.vs.length = W.fly.length := hc.1
  obtain ⟨x, hxi⟩ : ∃ x, X.vs[i]? = some x := ⟨_, List.getElem?_eq_getElem (by omega)⟩
  obtain ⟨y, hyi⟩ : ∃ y, W.fly[i]? = some y := ⟨_, List.getElem?_eq_getElem (by omega)⟩
  obtain ⟨hxy, hsl⟩ := cellsE_get hc hxi hyi
  obtain ⟨hyf, hyl⟩ := h.ok.notes y (List.mem_of_getElem? hyi)
  have hxn : x.n = y.cells.length := hsl.len.symm
  obtain ⟨g, o, hfa⟩ : ∃ g o, X.fa = some ⟨g, o, none⟩ := by
    obtain ⟨b0, o0, h1, _⟩ := (ownL_slc (G := fun _ => True) codNote (h.has.get 4 rfl) (fun _ _ => trivial)).cells i x hxi
    exact ⟨b0, o0, h1⟩
  have hw : W.deliver i = (0, (W.off i).got y) := by
    unfold WorldS.deliver
    rw [if_neg (fun h => h hu)]
    show (match W.fly[(i : Int).toNat]? with | none => _ | some x => _) = _
    rw [Int.toNat_natCast, hyi]
  rw [hw]
  clear hc hsl hw hu
  cases hcl : y.claim
  case true =>
    have hxc : x.claim = true := hxy.claim.trans hcl
    have hS := h.fix.1.start.no hx
    clear hx
    (conv => whnf)
    refine hS.ld 0 rfl (v := .slice (some ⟨g, o, none⟩) W.fly.length X.fc) (by rw [← hfa]; rfl) ?_
    (conv => whnf)
    refine IdxC.mk (by omega) (by omega) ?_
    (conv => whnf)
    refine hS.ldRow codNote 4 (by rw [← hfa]; rfl) hxi rfl ?_
    (conv => whnf)
    refine hS.new (fun b6 w2 hb6 hS => ?_)
    (conv => whnf)
    refine hS.st 7 rfl (Nat.le_of_ble_eq_true rfl) rfl (fun w3 hS => ?_)
    (conv => whnf)
    refine hS.ld 0 rfl (v := .slice (some ⟨g, o, none⟩) W.fly.length X.fc) (by rw [← hfa]; rfl) ?_
    (conv => whnf)
    refine RngC.mk (by omega) (by omega) ?_
    (conv => whnf)
    refine (ndel2_ok hfa hl hi hflen (hS.get 4 rfl)).mono ?_
    rintro v w4 ⟨rfl, hx, ho⟩
    replace hS := hS.upd 4 rfl hx (fun b hb => foot_own hb) ownL_local ho (fun b hb => .inl (ownB_slice hb))
    clear hx ho
    (conv => whnf)
    refine hS.st 0 rfl (by exact Nat.le_of_ble_eq_true rfl) rfl (fun w5 hS => ?_)
    (conv => whnf)
    rw [← hfa] at hS
    replace hS : St w (inF (fixH X W X.a X.b W.a W.b)) w5 (gotH X W i X.a X.b W.a W.b ++ [blk b6 107 (encNV x)]) := hS
    refine hS.ld 7 rfl (v := .bool true) (by rw [← hxc]; rfl) ?_
    have hxe := hxy.epoch
    have hxf := hxy.fro
    have e1 : (W.off (i : Int)).epoch = W.epoch := rfl
    have e2 : (W.off (i : Int)).to = W.to := rfl
    have hg1 : y.epoch > W.epoch ∨ W.to < 0 → (W.off i).got y = { W.off i with to := x.fro, epoch := x.epoch } := fun h => by
      unfold WorldS.got
      rw [if_pos hcl, hxe, hxf]
      exact if_pos h
    have hg2 : ¬ (y.epoch > W.epoch ∨ W.to < 0) → (W.off i).got y = W.off i := fun h => by
      unfold WorldS.got
      rw [if_pos hcl]
      exact if_neg h
    have hT : ∀ {w' : World} {W' : WorldS}, W'.a = W.a → W'.b = W.b → Turns w w' (fixH X W X.a X.b W.a W.b) (fixH (X.off i) W' X.a X.b W.a W.b) → Turns w w' (worldH X W) (worldH (X.off i) W') := fun ha hb k => Turns.fixed h.has k rfl rfl ha hb
    have hne := hS.ne 7 0 rfl rfl (by decide)
    (conv => whnf)
    (refine drawS tabOk mixed [] No [0, 1, 2, 3, 4, 5, 6, 7, 8, 9, 10, 11, 12, 13] (by kernel_rfl) ?_; rintro w1 rfl; replace hS := hS.drew)
    repeat' ((conv => whnf); first | refine RetC.mk ?_ | refine NzC.mk (by decide) ?_ | refine RngC.mk (by omega) (by omega) ?_ | refine IdxC.mk (by omega) (by omega) ?_ | refine hS.ldF 7 rfl rfl id ?_ | refine hS.ldF 0 rfl rfl id ?_ | refine brD (fun _ => ?_) (fun _ => ?_) | refine brND (fun _ => ?_) (fun _ => ?_) | refine brN (fun _ => ?_) (fun _ => ?_) | refine brI (fun _ => ?_) (fun _ => ?_))
    all_goals first
      | (rw [hg2 (by omega)]; exact ⟨rfl, X.off i, rfl, hT rfl rfl (St.turns (St.gotOff (B := []) (hS.keep 7)))⟩)
      | (rw [hg1 (by omega)]
         (refine drawS tabOk mixed [] (fun b => b = X.w) [0, 1, 2, 3, 4, 5, 6, 7, 8, 9, 10, 11] (by kernel_rfl) ?_; rintro w1 rfl; replace hS := hS.drew)
         have hK := hS.ref (fun b => b = X.w)
         repeat' ((conv => whnf); first | refine RetC.mk ?_ | refine NzC.mk (by decide) ?_ | refine RngC.mk (by omega) (by omega) ?_ | refine IdxC.mk (by omega) (by omega) ?_ | refine hS.ldF 7 rfl rfl hne ?_ | (refine hS.stK hK 0 rfl (by exact Nat.le_of_ble_eq_true rfl) rfl rfl (fun w' hK hS => KeepC.mk hK ?_)) | refine brD (fun _ => ?_) (fun _ => ?_) | refine brND (fun _ => ?_) (fun _ => ?_) | refine brN (fun _ => ?_) (fun _ => ?_) | refine brI (fun _ => ?_) (fun _ => ?_))
         exact ⟨rfl, X.off i, rfl, hT rfl rfl (St.turns (St.gotOff (W := { W with to := x.fro, epoch := x.epoch }) (B := []) (hS.keep 7)))⟩)
  case false =>
    have hxc : x.claim = false := hxy.claim.trans hcl
    have hn : 1 - y.fro = 0 ∨ 1 - y.fro = 1 := by omega
    have hxf := hxy.fro
    cases hN : (W.side (1 - y.fro)).node with
    | none =>
      have hS := h.fix.1.start.no hx
      clear hx
      (conv => whnf)
      refine hS.ld 0 rfl (v := .slice (some ⟨g, o, none⟩) W.fly.length X.fc) (by rw [← hfa]; rfl) ?_
      (conv => whnf)
      refine IdxC.mk (by omega) (by omega) ?_
      (conv => whnf)
      refine hS.ldRow codNote 4 (by rw [← hfa]; rfl) hxi rfl ?_
      (conv => whnf)
      refine hS.new (fun b6 w2 hb6 hS => ?_)
      (conv => whnf)
      refine hS.st 7 rfl (Nat.le_of_ble_eq_true rfl) rfl (fun w3 hS => ?_)
      (conv => whnf)
      refine hS.ld 0 rfl (v := .slice (some ⟨g, o, none⟩) W.fly.length X.fc) (by rw [← hfa]; rfl) ?_
      (conv => whnf)
      refine RngC.mk (by omega) (by omega) ?_
      (conv => whnf)
      refine (ndel2_ok hfa hl hi hflen (hS.get 4 rfl)).mono ?_
      rintro v w4 ⟨rfl, hx, ho⟩
      replace hS := hS.upd 4 rfl hx (fun b hb => foot_own hb) ownL_local ho (fun b hb => .inl (ownB_slice hb))
      clear hx ho
      (conv => whnf)
      refine hS.st 0 rfl (by exact Nat.le_of_ble_eq_true rfl) rfl (fun w5 hS => ?_)
      (conv => whnf)
      rw [← hfa] at hS
      replace hS : St w (inF (fixH X W X.a X.b W.a W.b)) w5 (gotH X W i X.a X.b W.a W.b ++ [blk b6 107 (encNV x)]) := hS
      refine hS.ld 7 rfl (v := .bool false) (by rw [← hxc]; rfl) ?_
      have hg : (W.off i).got y = W.off i := by
        unfold WorldS.got
        rw [if_neg (by rw [hcl]; decide), if_neg (by omega)]
        show (match (W.side (1 - y.fro)).node with | none => _ | some N => _) = _
        rw [hN]
      have hk : Turns w w5 (worldH X W) (worldH (X.off i) (W.off i)) := Turns.fixed h.has (St.turns (St.gotOff (B := []) (hS.keep 7))) rfl rfl rfl rfl
      have hst : Stands E q m w5 (X.off i) (W.off i) := h.turns hk (h.ok.off i)
      rw [hg]
      (conv => whnf)
      refine hS.ld 7 rfl rfl ?_
      (conv => whnf)
      refine RngC.mk (by omega) (by omega) ?_
      (conv => whnf)
      rw [hxf]
      refine (wup_ok (1 - y.fro) hst).mono ?_
      rintro v w6 ⟨rfl, hx⟩
      rw [upErr_none (W := W.off i) hn hN]
      repeat' ((conv => whnf); first | refine RetC.mk ?_ | refine NzC.mk (by decide) ?_ | refine RngC.mk (by omega) (by omega) ?_ | refine IdxC.mk (by omega) (by omega) ?_ | refine brD (fun _ => ?_) (fun _ => ?_) | refine brND (fun _ => ?_) (fun _ => ?_) | refine brN (fun _ => ?_) (fun _ => ?_) | refine brI (fun _ => ?_) (fun _ => ?_))
      exact ⟨rfl, X.off i, rfl, hk.trans (Turns.of_no hst.has hx)⟩
    | some N =>
      obtain ⟨hH, hQ⟩ := h.half hn
      have hnk := ((h.ok.side hn).node N hN).1
      have hT : ∀ {w'}, Turns w w' (halfH X W (1 - y.fro)) (fixH (X.off i) (W.off i) (X.side (1 - y.fro)) (X.side (1 - (1 - y.fro))) ⟨some (N.hear y).2, (W.side (1 - y.fro)).byt⟩ (W.side (1 - (1 - y.fro))) ++ nodeB (X.side (1 - y.fro)).A (N.hear y).2 (W.side (1 - y.fro)).byt) → Turns w w' (worldH X W) (worldH (X.off i) ((W.off i).got y)) := fun k => by
        have hg : (W.off i).got y = (W.off i).setSide (1 - y.fro) ⟨some (N.hear y).2, (W.side (1 - y.fro)).byt⟩ := by
          unfold WorldS.got
          rw [if_neg (by rw [hcl]; decide), if_neg (by omega)]
          show (match (W.side (1 - y.fro)).node with | none => _ | some N => _) = _
          rw [hN]
          rfl
        rw [hg]
        refine Turns.world h.has hn (X' := X.off i) ?_ rfl (side_set (X := X.off i) (W := W.off i) hn ((X.off i).side (1 - y.fro)) _).2.2.2
        have := half_set (X := X.off i) (W := W.off i) hn (Y := (X.off i).side (1 - y.fro)) rfl ⟨some (N.hear y).2, (W.side (1 - y.fro)).byt⟩
        rw [setSide_id hn] at this
        rw [this]
        exact k
      have hS := hH.start.no hx
      clear hx
      rw [half_up hN] at hS
      (conv => whnf)
      refine hS.ld 0 rfl (v := .slice (some ⟨g, o, none⟩) W.fly.length X.fc) (by rw [← hfa]; rfl) ?_
      (conv => whnf)
      refine IdxC.mk (by omega) (by omega) ?_
      (conv => whnf)
      refine hS.ldRow codNote 4 (by rw [← hfa]; rfl) hxi rfl ?_
      (conv => whnf)
      refine hS.new (fun b6 w2 hb6 hS => ?_)
      (conv => whnf)
      refine hS.st 15 rfl (Nat.le_of_ble_eq_true rfl) rfl (fun w3 hS => ?_)
      (conv => whnf)
      refine hS.ld 0 rfl (v := .slice (some ⟨g, o, none⟩) W.fly.length X.fc) (by rw [← hfa]; rfl) ?_
      (conv => whnf)
      refine RngC.mk (by omega) (by omega) ?_
      (conv => whnf)
      refine (ndel2_ok hfa hl hi hflen (hS.get 4 rfl)).mono ?_
      rintro v w4 ⟨rfl, hx, ho⟩
      replace hS := hS.upd 4 rfl hx (fun b hb => foot_own hb) ownL_local ho (fun b hb => .inl (ownB_slice hb))
      clear hx ho
      (conv => whnf)
      refine hS.st 0 rfl (by exact Nat.le_of_ble_eq_true rfl) rfl (fun w5 hS => ?_)
      (conv => whnf)
      rw [← hfa] at hS
      replace hS : St w (inF (fixH X W (X.side (1 - y.fro)) (X.side (1 - (1 - y.fro))) ⟨some N, (W.side (1 - y.fro)).byt⟩ (W.side (1 - (1 - y.fro))) ++ nodeB (X.side (1 - y.fro)).A N (W.side (1 - y.fro)).byt)) w5 (gotH X W i (X.side (1 - y.fro)) (X.side (1 - (1 - y.fro))) ⟨some N, (W.side (1 - y.fro)).byt⟩ (W.side (1 - (1 - y.fro))) ++ (nodeB (X.side (1 - y.fro)).A N (W.side (1 - y.fro)).byt ++ [blk b6 107 (encNV x)])) := hS
      refine hS.ld 15 rfl (v := .bool false) (by rw [← hxc]; rfl) ?_
      have hst : Stands E q m w5 (X.off i) (W.off i) := by
        refine h.turns (m' := m) ?_ (h.ok.off i)
        refine Turns.world h.has hn (X' := X.off i) ?_ rfl rfl
        have := St.turns (St.gotOff (B := nodeB (X.side (1 - y.fro)).A N (W.side (1 - y.fro)).byt) (hS.keep 15))
        rw [← half_up hN] at this
        have h2 := half_up (X := X.off i) (W := W.off i) (n := 1 - y.fro) hN
        rw [h2]
        exact this
      (conv => whnf)
      refine hS.ld 15 rfl rfl ?_
      (conv => whnf)
      refine RngC.mk (by omega) (by omega) ?_
      (conv => whnf)
      rw [hxf]
      refine (wup_ok (1 - y.fro) hst).mono ?_
      rintro v w6 ⟨rfl, hx⟩
      replace hS := hS.no hx
      rw [upErr_some (W := W.off i) hn hN, if_pos rfl]
      clear hx hst
      rw [half_up hN] at hT hQ
      have hE := h.errs.ext hS.ext hQ
      have hQ' : High (nodeH (X.side (1 - y.fro)).A N) q := hQ.app.2.app.1
      have hs := hS.notin 1 7 7 rfl (List.mem_singleton.2 rfl) (.inl (by decide))
      have hp := hS.notin 15 7 7 rfl (List.mem_singleton.2 rfl) (.inr (by decide))
      have hsrc : 0 < x.n → ∀ b0 o0, x.a = some ⟨b0, o0, none⟩ → ¬ inF (nodeH (X.side (1 - y.fro)).A N) b0 := fun h0 b0 o0 ha => hS.notin 5 7 7 (e := cellsE X.vs W.fly) rfl (cellsE_foot.2 ⟨x, List.mem_of_getElem? hxi, footN_at h0 ha⟩) (.inl (by decide))
      (conv => whnf)
      (refine drawS tabOk mixed [] (inF (nodeH (X.side (1 - y.fro)).A N)) [0, 1, 2, 3, 4, 5] (by kernel_rfl) ?_; rintro w1 rfl; replace hS := hS.drew)
      (conv => whnf)
      refine hS.ldF 1 rfl (v := .pointer (some ⟨(X.side (1 - y.fro)).A.n, 0, none⟩)) rfl hs ?_
      (conv => whnf)
      refine hS.laXF 15 rfl rfl hp ?_
      (conv => whnf)
      have hw3 : Has _ (nodeH (X.side (1 - y.fro)).A N) := Has.left (B := [_, _]) (Has.right (A := [_, _, _, _, _, _, _]) hS.has)
      have hyx : (⟨x.fro, x.life, x.epoch, x.claim, y.cells⟩ : NoteS) = y := by
        obtain ⟨f, l, e, c, cs⟩ := y
        simp only [NoteS.mk.injEq, and_true]
        exact ⟨hxy.fro, hxy.life, hxy.epoch, hxy.claim⟩
      refine (nhear_ok x y.cells (cellsE_get (hS.get 5 rfl) hxi hyi).2 hsrc hw3 hnk ((hE.ext (Ext.drawn No _ _) fun _ h => h.elim).sub rfl) hQ').mono ?_
      rintro v w' ⟨rfl, hk⟩
      refine KeepC.mk hk.ext ?_
      rw [hyx] at hk
      replace hS := St.callAt (A := gotH X W i (X.side (1 - y.fro)) (X.side (1 - (1 - y.fro))) ⟨some N, (W.side (1 - y.fro)).byt⟩ (W.side (1 - (1 - y.fro)))) (B := [_, _]) hS hk
      repeat' ((conv => whnf); first | refine RetC.mk ?_ | refine NzC.mk (by decide) ?_ | refine RngC.mk (by omega) (by omega) ?_ | refine IdxC.mk (by omega) (by omega) ?_ | refine brD (fun _ => ?_) (fun _ => ?_) | refine brND (fun _ => ?_) (fun _ => ?_) | refine brN (fun _ => ?_) (fun _ => ?_) | refine brI (fun _ => ?_) (fun _ => ?_))
      exact ⟨rfl, X.off i, rfl, hT (St.turns (St.gotOff (B := nodeB (X.side (1 - y.fro)).A (N.hear y).2 (W.side (1 - y.fro)).byt) (hS.keep 15)))⟩
end
end Go.Proofs.YtoaghhcjlfiflaaGreatDoor

namespace Go.Proofs.YtoaghhcjlfiflaaGreatDoor
open Go Ev
section
variable {w w' : World} {X : WorldA} {W : WorldS} {E : Nat → Addr} {q m : Nat}
theorem wflying_ok (h : Stands E q m w X W) : CallC Tryz.prog 37 #[.pointer (some ⟨X.w, 0, none⟩)] w fun v w' => ∃ a' c' vs', v = .slice a' W.fly.length c' ∧ Ext No w w' ∧ Has w' [ownL 107 5 encNV v vs', cellsE vs' W.fly] := by
  have hflen := h.ok.fly
  have hc : (cellsE X.vs W.fly).holds w := h.has.get 5 rfl
  have hl : X.vs.length = W.fly.length := hc.1
  have hrow := ownL_slc (G := fun _ => True) codNote (h.has.get 4 rfl) (fun _ _ => trivial)
  have hnote := h.ok.notes
  refine fn_intro tabOk Tryz.func37 (by kernel_rfl) rfl Tryz.ntmps37 (Nat.le_of_ble_eq_true rfl) ?_
  (conv => whnf)
  refine h.has.start.ld 0 rfl rfl ?_
  have hS := ((St.start w No).addNil 107 5 encNV).add (e := cellsE [] []) cellsE_local (cellsE_nil w) (fun b hb => by simp [cellsE] at hb) (fun f _ b _ hb => by simp [cellsE] at hb)
  (conv => whnf)
  refine loopR tabOk (fun σ w' q => ∃ (k : Nat) (a' : Option Addr) (c' : Nat) (vs' : List NoteV), vs'.length = k ∧ σ = [(11, .int .i64 k), (10, .int .i64 (W.fly.length : Nat)), (9, .slice X.fa W.fly.length X.fc), (3, .slice a' k c')] ∧ q = W.fly.length - k ∧ k ≤ W.fly.length ∧ St w No w' [ownL 107 5 encNV (.slice a' k c') vs', cellsE vs' (W.fly.take k)])
    (σ' := [(11, .int .i64 ((0 : Nat) : Int)), (10, .int .i64 (W.fly.length : Nat)), (9, .slice X.fa W.fly.length X.fc), (3, .slice none 0 0)]) (n := W.fly.length) ⟨rfl, rfl, rfl, rfl, trivial⟩ ⟨0, none, 0, [], rfl, rfl, rfl, Nat.zero_le _, hS⟩ ?_
  clear hS
  rintro _ w1 q' ⟨k, a', c', vs', hvl, rfl, rfl, hk, hS⟩
  (conv => whnf)
  refine brD (fun h3 => ?_) (fun h3 => ?_)
  · have hk3 : k < W.fly.length := by omega
    obtain ⟨b0, o0, x, hxk, _, hfa, hb0, hcx⟩ := hrow.at hk3
    obtain ⟨y, hyk⟩ : ∃ y, W.fly[k]? = some y := ⟨_, List.getElem?_eq_getElem hk3⟩
    obtain ⟨hxy, hsl⟩ := cellsE_get hc hxk hyk
    have hyl := (hnote y (List.mem_of_getElem? hyk)).2
    have hxn : x.n = y.cells.length := hsl.len.symm
    have hst : W.fly.take (k + 1) = W.fly.take k ++ [y] := by rw [List.take_add_one, hyk]; rfl
    rw [hfa]
    (conv => whnf)
    refine IdxC.mk (by omega) (by omega) ?_
    (conv => whnf)
    refine hS.lar rfl hcx id ?_
    (conv => whnf)
    refine hS.new (fun b6 w2 hb6 hS => ?_)
    (conv => whnf)
    refine hS.st 2 rfl (Nat.le_of_ble_eq_true rfl) rfl (fun w3 hS => ?_)
    (conv => whnf)
    refine hS.laX 2 rfl rfl ?_
    (conv => whnf)
    refine (wown_ok (hsl.no hS.ext) (by omega)).mono ?_
    rintro v w4 ⟨a2, c2, rfl, hx, ho, hf⟩
    replace hS := hS.made hx ownL_local ho (fun g hg => hf g (by simpa [ownL, own] using hg))
    clear hx ho hf
    (conv => whnf)
    refine hS.litX Tryz.underlying81 (sz := 5) (by kernel_rfl) (z := .agg (encNV noNV).toArray) (by kernel_rfl) rfl rfl (cs := encNV (x.with a2 c2)) (by rfl) (fun b9 w5 hb9 hx hS => ?_)
    (conv => whnf)
    refine hS.appS codNote 0 (ys := [x.with a2 c2]) (G := fun _ => True) Tryz.underlying81 (bytes := 56) (by kernel_rfl) (z := .agg (encNV noNV).toArray) (by kernel_rfl) rfl rfl (Slc.of_blk codNote (hS.blk 4 rfl) rfl (by simp) (fun _ _ => trivial) rfl) (by rw [hvl]; unfold maxLen; omega) (by rw [hvl]; omega) (fun a3 c3 w6 hS => ?_)
    rw [hvl] at hS ⊢
    have hcs : Slc w6 10 encCell (fun _ => True) a2 x.n y.cells := ownL_slc codCell (hS.get 3 rfl) (fun _ _ => trivial)
    have hS2 := ((hS.sel [1, 3, 0] (by decide)).join (g := cellsE (vs' ++ [x.with a2 c2]) (W.fly.take k ++ [y])) cellsE_local (cellsE_app (hS.get 1 rfl) (cellsE_one ⟨hxy.fro, hxy.life, hxy.epoch, hxy.claim⟩ hcs)) (fun b hb => by
      obtain ⟨z, hz, hb⟩ := cellsE_foot.1 hb
      rcases List.mem_append.1 hz with hz | hz
      · exact .inl (cellsE_foot.2 ⟨z, hz, hb⟩)
      · obtain rfl := List.mem_singleton.1 hz
        exact .inr (foot_own (footN_own hb)))).sel [1, 0] (by decide)
    rw [← hst] at hS2
    (conv => whnf)
    refine RngC.mk (by omega) (by omega) ?_
    (conv => whnf)
    refine LoopE.mk ⟨_, [(11, .int .i64 ((k + 1 : Nat) : Int)), (10, _), (9, _), (3, .slice a3 (k + 1) c3)], ?_, ⟨rfl, rfl, rfl, rfl, trivial⟩, ⟨k + 1, a3, c3, vs' ++ [x.with a2 c2], by rw [List.length_append, hvl]; rfl, rfl, rfl, by omega, hS2⟩⟩
    omega
  · obtain rfl : k = W.fly.length := by omega
    rw [List.take_length] at hS
    repeat' ((conv => whnf); first | refine RetC.mk ?_ | refine NzC.mk (by decide) ?_ | refine RngC.mk (by omega) (by omega) ?_ | refine IdxC.mk (by omega) (by omega) ?_ | refine brD (fun _ => ?_) (fun _ => ?_) | refine brND (fun _ => ?_) (fun _ => ?_) | refine brN (fun _ => ?_) (fun _ => ?_) | refine brI (fun _ => ?_) (fun _ => ?_))
    exact ⟨a', c', vs', rfl, hS.ext, hS.has⟩
theorem fix_new {Y Z : SideA} {A : NodeA} {N : NodeS} {B : BytS} {t : SideS} (hb : A.b = Y.A.b) : fixH X W ⟨Y.s, A⟩ Z ⟨some N, B⟩ t = [blk X.w 96 (encWorld X W), blk Y.s 101 [.pointer (some ⟨A.n, 0, none⟩), .pointer (some ⟨Y.A.b, 0, none⟩)], blk Z.s 101 (encSide Z t), ownL 92 5 encRule (.slice X.ra W.rules.length X.rc) W.rules, ownL 107 5 encNV (.slice X.fa W.fly.length X.fc) X.vs, cellsE X.vs W.fly, ownL 64 2 encEv (.slice X.ea W.events.length X.ec) W.events] := by
  rw [← hb]
  rfl
theorem wcome_ok (n : Int) (h : Stands E q m w X W) : CallC Tryz.prog 16 #[.pointer (some ⟨X.w, 0, none⟩), .int .i64 n] w fun v w' => v = errV E (W.up n).1 ∧ ∃ X', X'.w = X.w ∧ Turns w w' (worldH X W) (worldH X' (W.up n).2) := by
  have hqw : ∀ b, inF (worldH X W) b → q ≤ b := h.high
  by_cases hn : n = 0 ∨ n = 1
  case neg =>
    rw [show W.up n = (2, W) from if_pos (by omega)]
    refine fn_intro tabOk Tryz.func16 (by kernel_rfl) rfl Tryz.ntmps16 (Nat.le_of_ble_eq_true rfl) ?_
    have hS := h.has.start
    (conv => whnf)
    refine brND (fun h1 => ?_) (fun h1 => absurd (.inl h1) hn)
    (conv => whnf)
    refine brND (fun h1 => ?_) (fun h1 => absurd (.inr h1) hn)
    repeat' ((conv => whnf); first | refine RetC.mk ?_ | refine NzC.mk (by decide) ?_ | refine RngC.mk (by omega) (by omega) ?_ | refine IdxC.mk (by omega) (by omega) ?_ | refine hS.ldr (h.errs.at_ 2 rfl) (Errs.out h.errs 2 rfl hqw) ?_ | refine brD (fun _ => ?_) (fun _ => ?_) | refine brND (fun _ => ?_) (fun _ => ?_) | refine brN (fun _ => ?_) (fun _ => ?_) | refine brI (fun _ => ?_) (fun _ => ?_))
    exact ⟨rfl, X, rfl, Turns.refl h.has⟩
  obtain ⟨hH, hQ⟩ := h.half hn
  have hqF : ∀ b, inF (halfH X W n) b → q ≤ b := hQ
  cases hN : (W.side n).node with
  | some N =>
    rw [show W.up n = (11, W) by unfold WorldS.up; rw [if_neg (by omega), hN]]
    rcases hn with rfl | rfl
    all_goals
      refine fn_intro tabOk Tryz.func16 (by kernel_rfl) rfl Tryz.ntmps16 (Nat.le_of_ble_eq_true rfl) ?_
      have hS := hH.start
      (conv => whnf)
      refine IdxC.mk (by decide) (by decide) ?_
      (conv => whnf)
      refine hS.ld 0 rfl rfl ?_
      (conv => whnf)
      refine hS.ld 1 rfl (v := .pointer (some ⟨(X.side _).A.n, 0, none⟩)) (by rw [encSide_some hN]; rfl) ?_
      repeat' ((conv => whnf); first | refine RetC.mk ?_ | refine NzC.mk (by decide) ?_ | refine RngC.mk (by omega) (by omega) ?_ | refine IdxC.mk (by omega) (by omega) ?_ | refine hS.ldr (h.errs.at_ 11 rfl) (Errs.out h.errs 11 rfl hqF) ?_ | refine brD (fun _ => ?_) (fun _ => ?_) | refine brND (fun _ => ?_) (fun _ => ?_) | refine brN (fun _ => ?_) (fun _ => ?_) | refine brI (fun _ => ?_) (fun _ => ?_))
      exact ⟨rfl, X, rfl, Turns.refl h.has⟩
  | none =>
    have hw : W.up n = if (newN n (onB (W.side n).byt) W.rules).1 ≠ 0 then ((newN n (onB (W.side n).byt) W.rules).1, W.setSide n ⟨none, (newN n (onB (W.side n).byt) W.rules).2.2⟩)
        else (0, W.setSide n ⟨some (newN n (onB (W.side n).byt) W.rules).2.1, (newN n (onB (W.side n).byt) W.rules).2.2⟩) := by
      unfold WorldS.up
      rw [if_neg (by omega), hN]
    rw [hw]
    have hBk := (h.ok.side hn).bok
    have hBo := onB_ok hBk
    have hgr := h.ok.rules
    have hT : ∀ {w'} {Y : SideA} {s : SideS}, Y.s = (X.side n).s → Turns w w' (halfH X W n) (fixH X W Y (X.side (1 - n)) s (W.side (1 - n)) ++ sideH Y s) → ∃ X', X'.w = X.w ∧ Turns w w' (worldH X W) (worldH X' (W.setSide n s)) := fun {w'} {Y} {s} hY k => ⟨X.setSide n Y, by rcases hn with rfl | rfl <;> rfl, Turns.side h.has hn hY k⟩
    have hbq : q ≤ (X.side n).A.b := by
      have h1 := hQ
      rw [half_down hN] at h1
      exact h1 _ ⟨_, List.mem_of_getElem? (i := 7) rfl, List.mem_singleton.2 rfl⟩
    have hD := half_down (X := X) hN
    have hns : ∀ {w' : World} {L : List Ent}, St w (inF (halfH X W n)) w' L → L[3]? = some (ownL 92 5 encRule (.slice X.ra W.rules.length X.rc) W.rules) → L[7]? = some (blk (X.side n).A.b 143 (encBy (onB (W.side n).byt))) → Slc w' 5 encRule (fun _ => True) X.ra W.rules.length W.rules ∧ (0 < W.rules.length → ∀ b0 o0, X.ra = some ⟨b0, o0, none⟩ → b0 ≠ (X.side n).A.b) := by
      intro w' L hS h3 h7
      refine ⟨ownL_slc codRule (hS.get 3 h3) (fun _ _ => trivial), fun _ b0 o0 ha he => ?_⟩
      exact hS.apartAt 3 7 h3 h7 (by decide) b0 (foot_own (by rw [ha]; rfl)) (by rw [he]; exact List.mem_singleton.2 rfl)
    generalize hR : newN n (onB (W.side n).byt) W.rules = R
    obtain ⟨T, hTT⟩ : ∃ T : Nat → Prop, ∀ d, T d ↔ d = (X.side n).A.b := ⟨fun d => d = (X.side n).A.b, fun _ => Iff.rfl⟩
    obtain ⟨L, hL⟩ : ∃ L : NodeA → SideA, ∀ A, (L A).s = (X.side n).s ∧ (L A).A = A := ⟨fun A => ⟨(X.side n).s, A⟩, fun _ => ⟨rfl, rfl⟩⟩
    rcases hn with rfl | rfl
    all_goals
      refine fn_intro tabOk Tryz.func16 (by kernel_rfl) rfl Tryz.ntmps16 (Nat.le_of_ble_eq_true rfl) ?_
      have hS := hH.start
      rw [hD] at hS hT
      rw [hD] at hns hqF
      (conv => whnf)
      refine IdxC.mk (by decide) (by decide) ?_
      (conv => whnf)
      refine hS.ld 0 rfl rfl ?_
      (conv => whnf)
      refine hS.ld 1 rfl rfl ?_
      (conv => whnf)
      refine hS.ld 1 rfl rfl ?_
      (conv => whnf)
      refine (bon_ok (hS.blk 7 rfl) hBk.len).mono ?_
      rintro v w' ⟨hx, hB⟩
      replace hS := hS.upd 7 rfl hx (fun c hc => by subst hc; exact List.mem_singleton.2 rfl) (blk_local _ _ _) hB (fun c hc => .inl hc)
      clear hx hB
      obtain ⟨hsl, hsrc⟩ := hns hS rfl rfl
      have hn1 := hS.ne 1 7 rfl rfl (by decide)
      have hn0 := hS.ne 0 7 rfl rfl (by decide)
      have hE := h.errs.ext hS.ext hqF
      (conv => whnf)
      (refine drawS tabOk mixed [] (T) [0, 1, 2, 3, 4, 5, 6, 7, 8, 9, 10, 11, 12, 13, 14] (by kernel_rfl) ?_; rintro w1 rfl; replace hS := hS.drew)
      have hK := hS.ref T
      (conv => whnf)
      refine hS.ldF 1 rfl rfl (fun ht => hn1 ((hTT _).1 ht)) ?_
      (conv => whnf)
      refine hS.ldF 0 rfl rfl (fun ht => hn0 ((hTT _).1 ht)) ?_
      (conv => whnf)
      refine (nnew_ok _ (by decide) (hsl.no (Ext.drawn _ _ _)) (by have := hgr.1; omega) (fault_good.2 hgr) hsrc (hS.blk 7 rfl) hBo rfl ((hE.ext (Ext.drawn No _ _) fun _ h => h.elim).sub rfl) hbq).mono ?_
      rintro v w6 hnew
      have hR' : newN _ ⟨(W.side _).byt.data, false, -1⟩ W.rules = R := hR
      rw [hR'] at hnew
      rcases hnew with ⟨h0, A, hAb, rfl, hk⟩ | ⟨h0, rfl, hk, hB⟩
      · rw [if_neg (fun h => h h0)]
        replace hK := hK.trans (hk.ext.mono fun d hd => (hTT d).2 (by obtain ⟨e, he, hd⟩ := hd; obtain rfl := List.mem_singleton.1 he; exact List.mem_singleton.1 hd))
        refine KeepC.mk hK ?_
        have hS2 := St.callAt (A := [_, _, _, _, _, _, _]) (B := []) hS hk
        (conv => whnf)
        refine hS2.st 1 rfl (by exact Nat.le_of_ble_eq_true rfl) rfl (fun w' hS3 => ?_)
        repeat' ((conv => whnf); first | refine RetC.mk ?_ | refine NzC.mk (by decide) ?_ | refine RngC.mk (by omega) (by omega) ?_ | refine IdxC.mk (by omega) (by omega) ?_ | refine brD (fun _ => ?_) (fun _ => ?_) | refine brND (fun _ => ?_) (fun _ => ?_) | refine brN (fun _ => ?_) (fun _ => ?_) | refine brI (fun _ => ?_) (fun _ => ?_))
        refine ⟨rfl, hT (Y := ⟨(X.side _).s, A⟩) (s := ⟨some R.2.1, R.2.2⟩) rfl ?_⟩
        rw [fix_new hAb]
        exact St.turns hS3
      · rw [if_pos h0]
        obtain ⟨j, hj⟩ : ∃ j, R.1 = j + 1 := ⟨R.1 - 1, by omega⟩
        replace hK := hK.trans (hk.mono fun d hd => (hTT d).2 hd)
        refine KeepC.mk hK ?_
        have hS2 := hS.upd 7 rfl hk (fun c hc => by subst hc; exact List.mem_singleton.2 rfl) (blk_local _ _ _) hB (fun c hc => .inl hc)
        rw [hj]
        repeat' ((conv => whnf); first | refine RetC.mk ?_ | refine NzC.mk (by decide) ?_ | refine RngC.mk (by omega) (by omega) ?_ | refine IdxC.mk (by omega) (by omega) ?_ | refine brD (fun _ => ?_) (fun _ => ?_) | refine brND (fun _ => ?_) (fun _ => ?_) | refine brN (fun _ => ?_) (fun _ => ?_) | refine brI (fun _ => ?_) (fun _ => ?_))
        exact ⟨rfl, hT (Y := X.side _) (s := ⟨none, R.2.2⟩) rfl (St.turns hS2)⟩
end
end Go.Proofs.YtoaghhcjlfiflaaGreatDoor

namespace Go.Proofs.YtoaghhcjlfiflaaGreatDoor
open Go Ev
theorem notes_cells (N : NodeS) (c : Bool) : ∀ n ∈ (N.notes c).1, (n.claim = true ∧ n.cells = []) ∨ (n.claim = false ∧ n.cells = cellsOfN (N.notes c).1) := by
  cases hb : N.beat
  · cases c
    · rw [notes_ff hb]
      intro n hn
      cases hn
    · rw [notes_tf hb]
      intro n hn
      obtain rfl := List.mem_singleton.1 hn
      exact .inl ⟨rfl, rfl⟩
  · rw [notes_t hb]
    intro n hn
    rcases List.mem_cons.1 hn with rfl | hn
    · exact .inl ⟨rfl, rfl⟩
    · obtain rfl := List.mem_singleton.1 hn
      exact .inr ⟨rfl, by simp [cellsOfN]⟩
theorem tick_cells (N : NodeS) (B : BytS) : ∀ n ∈ (N.tick B).2.1, (n.claim = true ∧ n.cells = []) ∨ (n.claim = false ∧ n.cells = cellsOfN (N.tick B).2.1) := by
  unfold NodeS.tick
  split
  · intro n hn
    cases hn
  split
  · split
    · intro n hn
      cases hn
    · exact notes_cells _ _
  · exact notes_cells _ _
theorem notes_short (N : NodeS) (c : Bool) : (N.notes c).1.length ≤ 2 := by
  cases hb : N.beat
  · cases c
    · rw [notes_ff hb]
      exact Nat.zero_le _
    · rw [notes_tf hb]
      exact Nat.le_succ _
  · rw [notes_t hb]
    exact Nat.le_refl _
theorem tick_short (N : NodeS) (B : BytS) : (N.tick B).2.1.length ≤ 2 := by
  unfold NodeS.tick
  split
  · exact Nat.zero_le _
  split
  · split
    · exact Nat.zero_le _
    · exact notes_short _ _
  · exact notes_short _ _
end Go.Proofs.YtoaghhcjlfiflaaGreatDoor

namespace Go.Proofs.YtoaghhcjlfiflaaGreatDoor.Ev
open Go
def loopsL : Code → List Code
  | .loop c => c :: loopsL c
  | .seq a b => loopsL a ++ loopsL b
  | .cond _ a b => loopsL a ++ loopsL b
  | .block _ c => loopsL c
  | .scope c => loopsL c
  | _ => []
def loopAt (f : Func) (i : Nat) : Code := match f.body with
  | some c => (loopsL c).getD i .skip
  | none => .skip
theorem St.as {w0 w : World} {S : Nat → Prop} {H H' : List Ent} (h : St w0 S w H) (e : H = H') : St w0 S w H' := e ▸ h
end Go.Proofs.YtoaghhcjlfiflaaGreatDoor.Ev

namespace Go.Proofs.YtoaghhcjlfiflaaGreatDoor
open Go Ev
section
variable {w : World}
theorem slc_nil {α : Type} (w : World) (sz : Nat) (enc : α → List Value) (G : α → Prop) (a : Option Addr) : Slc w sz enc G a 0 [] := ⟨rfl, by decide, fun k x hk => by simp at hk, fun x hx => by simp at hx⟩
end
end Go.Proofs.YtoaghhcjlfiflaaGreatDoor

namespace Go.Proofs.YtoaghhcjlfiflaaGreatDoor
open Go Ev
section
variable {w w' : World} {X : WorldA} {W : WorldS} {E : Nat → Addr} {q m : Nat}
def WorldS.with (W : WorldS) (f : List NoteS) (e : List (Int × Int)) : WorldS := { W with fly := f, events := e }
def WorldA.with (X : WorldA) (fa : Option Addr) (fc : Nat) (vs : List NoteV) (ea : Option Addr) (ec : Nat) : WorldA := { X with fa := fa, fc := fc, vs := vs, ea := ea, ec := ec }
theorem half_with {n : Int} (hn : n = 0 ∨ n = 1) (s : SideS) (f : List NoteS) (e : List (Int × Int)) (fa : Option Addr) (fc : Nat) (vs : List NoteV) (ea : Option Addr) (ec : Nat) :
    halfH (X.with fa fc vs ea ec) ((W.setSide n s).with f e) n = fixH (X.with fa fc vs ea ec) (W.with f e) (X.side n) (X.side (1 - n)) s (W.side (1 - n)) ++ sideH (X.side n) s := by
  rcases hn with rfl | rfl <;> rfl
theorem with_side {n : Int} (hn : n = 0 ∨ n = 1) (s : SideS) (f : List NoteS) (e : List (Int × Int)) : ((W.setSide n s).with f e).side (1 - n) = W.side (1 - n) := by
  rcases hn with rfl | rfl <;> rfl
theorem noteV_is {l : List NoteS} {x : Option Addr} {y : Nat} (hl : ∀ n ∈ l, (n.claim = true ∧ n.cells = []) ∨ (n.claim = false ∧ n.cells = cellsOfN l)) (h1 : Slc w 10 encCell (fun _ => True) x (cellsOfN l).length (cellsOfN l)) {n : NoteS} (hn : n ∈ l) : NoteIs (noteV x y n) n ∧ Slc w 10 encCell (fun _ => True) (noteV x y n).a (noteV x y n).n n.cells := by
  refine ⟨⟨rfl, rfl, rfl, rfl⟩, ?_⟩
  rcases hl n hn with ⟨h3, h4⟩ | ⟨h3, h4⟩
  · simp only [noteV, h4]
    exact slc_nil _ _ _ _ _
  · simp only [noteV, h3, h4]
    exact h1
def evT (X : WorldA) (W : WorldS) : Nat → Prop := fun d => d = X.w ∨ d ∈ (ownL 64 2 encEv (.slice X.ea W.events.length X.ec) W.events).foot
def flyK (F : List NoteS) (l : List NoteS) (k : Nat) : List NoteS := F ++ (l.take k).take (200 - F.length)
theorem flyK_more {F l : List NoteS} {k : Nat} {x : NoteS} (hx : l[k]? = some x) (h : (flyK F l k).length < 200) : flyK F l (k + 1) = flyK F l k ++ [x] := by
  have hk := (List.getElem?_eq_some_iff.1 hx).1
  unfold flyK at h ⊢
  rw [List.length_append, List.length_take, List.length_take] at h
  rw [List.take_take, List.take_take, Nat.min_eq_right (by omega), Nat.min_eq_right (by omega), List.take_add_one, hx, List.append_assoc]
  rfl
theorem flyK_full {F l : List NoteS} {k : Nat} (hF : F.length ≤ 200) (h : ¬ (flyK F l k).length < 200) : flyK F l (k + 1) = flyK F l k := by
  unfold flyK at h ⊢
  rw [List.length_append, List.length_take, List.length_take] at h
  rw [List.take_take, List.take_take, Nat.min_eq_left (by omega), Nat.min_eq_left (by omega)]
theorem flyK_le {F l : List NoteS} {k : Nat} (hF : F.length ≤ 200) : (flyK F l k).length ≤ 200 := by
  unfold flyK
  rw [List.length_append, List.length_take]
  omega
abbrev tickH (X : WorldA) (W : WorldS) (Y Z : SideA) (N : NodeS) (B : BytS) (t : SideS) (a : Option Addr) (c : Nat) (x : Option Addr) (y : Nat) (l : List NoteS) : List Ent :=
  fixH X W Y Z ⟨some N, B⟩ t ++ (nodeB Y.A N B ++ noteH a c x y l)
theorem flyK_zero (F l : List NoteS) : flyK F l 0 = F := by simp [flyK]
theorem flyK_end {F l : List NoteS} {k : Nat} (h : k = l.length) : flyK F l k = F ++ l.take (200 - F.length) := by
  subst h
  unfold flyK
  rw [List.take_length]
set_option maxHeartbeats 4000000 in
set_option maxRecDepth 10000 in
theorem tickLoop {S : Nat → Prop} {w5 : World} {Y Z : SideA} {N' : NodeS} {B' : BytS} {t : SideS} {a x ea : Option Addr} {c y ec ll : Nat} {l : List NoteS} {ev : List (Int × Int)} {σ : Slots} {Q : Exit → Slots → World → Prop}
    (hs : Sub [(90, .int .i64 ((0 : Nat) : Int)), (89, .int .i64 (ll : Nat)), (88, .slice a ll c), (0, .pointer (some ⟨X.w, 0, none⟩))] σ)
    (hS : St w S w5 (tickH (X.with X.fa X.fc X.vs ea ec) (W.with W.fly ev) Y Z N' B' t a c x y l)) (hflen : W.fly.length ≤ 200) (hshort : l.length ≤ 2) (hll : (l.map (noteV x y)).length = ll) (hnl : ll = l.length)
    (hcell : ∀ n ∈ l, (n.claim = true ∧ n.cells = []) ∨ (n.claim = false ∧ n.cells = cellsOfN l)) (hfew : ∀ x ∈ l, x.cells.length ≤ 8)
    (hQ : ∀ σ w6, (∃ fa fc vs, St w S w6 (tickH (X.with fa fc vs ea ec) (W.with (flyK W.fly l ll) ev) Y Z N' B' t a c x y l)) → Q (.exit 0) σ w6) :
    LoopC Tryz.prog tab 112 (loopAt Tryz.f17 0) Q σ w5 := by
  refine loopR tabOk (fun σ w' q => ∃ (k : Nat) (fa : Option Addr) (fc : Nat) (vs : List NoteV), σ = [(90, .int .i64 k), (89, .int .i64 (ll : Nat)), (88, .slice a ll c), (0, .pointer (some ⟨X.w, 0, none⟩))] ∧ q = ll - k ∧ k ≤ ll ∧ St w S w' (tickH (X.with fa fc vs ea ec) (W.with (flyK W.fly l k) ev) Y Z N' B' t a c x y l))
    (σ' := [(90, .int .i64 ((0 : Nat) : Int)), (89, .int .i64 (ll : Nat)), (88, .slice a ll c), (0, .pointer (some ⟨X.w, 0, none⟩))]) (n := ll) hs ⟨0, X.fa, X.fc, X.vs, rfl, rfl, Nat.zero_le _, by rw [flyK_zero]; exact hS⟩ ?_
  clear hS
  rintro _ w5 q' ⟨k, fa, fc, vs, rfl, rfl, hk, hS⟩
  (conv => whnf)
  refine brD (fun h3 => ?_) (fun h3 => ?_)
  · have hk3 : k < l.length := by omega
    obtain ⟨z, hz⟩ : ∃ z, l[k]? = some z := ⟨_, List.getElem?_eq_getElem hk3⟩
    have hzm := List.mem_of_getElem? hz
    have hxk : (l.map (noteV x y))[k]? = some (noteV x y z) := by rw [List.getElem?_map, hz]; rfl
    have hz8 := hfew z hzm
    obtain ⟨g, o, hga⟩ : ∃ g o, a = some ⟨g, o, none⟩ := by
      obtain ⟨b0, o0, h1, _⟩ := (ownL_slc (G := fun _ => True) codNote (hS.get 15 rfl) (fun _ _ => trivial)).cells k _ hxk
      exact ⟨b0, o0, h1⟩
    subst hga
    have hvl : vs.length = (flyK W.fly l k).length := (hS.get 5 rfl : (cellsE vs (flyK W.fly l k)).holds _).1
    have hfl := flyK_le (l := l) (k := k) hflen
    (conv => whnf)
    refine IdxC.mk (by omega) (by omega) ?_
    (conv => whnf)
    refine hS.ldRow codNote 15 (by rfl) hxk rfl ?_
    (conv => whnf)
    refine hS.new (fun b6 w2 hb6 hS => ?_)
    (conv => whnf)
    refine hS.st 17 rfl (Nat.le_of_ble_eq_true rfl) rfl (fun w3 hS => ?_)
    (conv => whnf)
    refine hS.ld 0 rfl rfl ?_
    (conv => whnf)
    refine brD (fun h4 => ?_) (fun h4 => ?_)
    · have hmore := flyK_more hz (Int.ofNat_lt.1 h4)
      (conv => whnf)
      refine drawT tabOk mixed [4, 5] (fun _ => True) (.take 0 (.take 1 (.take 2 (.take 3 (.alt 4 (.alt 5 (.alt 6 (.alt 7 (.alt 8 (.take 9 (.take 10 (.alt 11 .fin .fin))) .fin) .fin) .fin) .fin) (.alt 5 (.alt 4 (.alt 6 (.alt 7 (.alt 8 (.take 9 (.take 10 (.alt 11 .fin .fin))) .fin) .fin) .fin) (.alt 6 (.alt 4 (.alt 7 (.alt 8 (.take 9 (.take 10 (.alt 11 .fin .fin))) .fin) .fin) (.alt 7 (.alt 4 (.alt 8 (.take 9 (.take 10 (.alt 11 .fin .fin))) .fin) .fin) .fin)) .fin)) .fin)))))) (by kernel_rfl) ?_
      rintro w6 rfl
      replace hS := hS.drew
      have hK := hS.ref (fun _ => True)
      repeat' ((conv => whnf); first | refine RetC.mk ?_ | refine NzC.mk (by decide) ?_ | refine RngC.mk (by omega) (by omega) ?_ | refine IdxC.mk (by omega) (by omega) ?_ | refine hS.ld 0 rfl rfl (KeepC.mk hK ?_) | refine hS.laX 17 rfl rfl (KeepC.mk hK ?_) | (refine (wown_ok (noteV_is hcell (ownL_slc codCell (hS.get 16 rfl) (fun _ _ => trivial)) hzm).2 (by show z.cells.length ≤ 1000; omega)).mono ?_; rintro v w2 ⟨a', c', rfl, hx, ho, hf⟩; replace hS := hS.made hx ownL_local ho (fun g hg => hf g (by simpa [ownL, own] using hg)); replace hK := hK.trans hx.of_no; clear hx ho hf; refine KeepC.mk hK ?_) | (refine hS.litX Tryz.underlying81 (sz := 5) (by kernel_rfl) (z := .agg (encNV noNV).toArray) (by kernel_rfl) rfl rfl (cs := encNV ((noteV x y z).with a' c')) (by rfl) (fun b9 w3 hb9 hx hS => ?_); replace hK := hK.trans hx.of_no; clear hx; refine KeepC.mk hK ?_) | (refine hS.appX codNote 4 (ys := [(noteV x y z).with a' c']) (G := fun _ => True) Tryz.underlying81 (bytes := 56) (by kernel_rfl) (z := .agg (encNV noNV).toArray) (by kernel_rfl) rfl rfl (Slc.of_blk codNote (hS.blk 19 rfl) rfl (by simp) (fun _ _ => trivial) rfl) (by show vs.length + 1 ≤ _; rw [hvl]; unfold maxLen; omega) (by show (vs.length + 1) * 56 ≤ _; rw [hvl]; omega) (fun fa2 fc2 w9 hx hS => ?_); replace hK := hK.trans (hx.mono fun _ _ => trivial); clear hx; refine KeepC.mk hK ?_) | (refine hS.stK hK 0 rfl (by exact Nat.le_of_ble_eq_true rfl) rfl trivial (fun w' hK hS => KeepC.mk hK ?_)) | refine And.intro ?_ ?_ | refine brD (fun _ => ?_) (fun _ => ?_) | refine brND (fun _ => ?_) (fun _ => ?_) | refine brN (fun _ => ?_) (fun _ => ?_) | refine brI (fun _ => ?_) (fun _ => ?_))
      all_goals
        have hcs : Slc _ 10 encCell (fun _ => True) a' z.cells.length z.cells := ownL_slc codCell (hS.get 18 rfl) (fun _ _ => trivial)
        have hj := ((hS.sel [5, 18, 0, 1, 2, 3, 4, 6, 7, 8, 9, 10, 11, 12, 13, 14, 15, 16] (by decide)).join (g := cellsE (vs ++ [(noteV x y z).with a' c']) (flyK W.fly l k ++ [z])) cellsE_local (cellsE_app (hS.get 5 rfl) (cellsE_one ⟨rfl, rfl, rfl, rfl⟩ hcs)) (fun b hb => by
          obtain ⟨u, hu, hb⟩ := cellsE_foot.1 hb
          rcases List.mem_append.1 hu with hu | hu
          · exact .inl (cellsE_foot.2 ⟨u, hu, hb⟩)
          · obtain rfl := List.mem_singleton.1 hu
            exact .inr (foot_own (footN_own hb)))).sel [1, 2, 3, 4, 5, 0, 6, 7, 8, 9, 10, 11, 12, 13, 14, 15, 16] (by decide)
        refine LoopE.mk ⟨_, [(90, .int .i64 ((k + 1 : Nat) : Int)), (89, _), (88, _), (0, _)], ?_, ⟨rfl, rfl, rfl, rfl, trivial⟩, ⟨k + 1, fa2, fc2, vs ++ [(noteV x y z).with a' c'], rfl, rfl, by omega, ?_⟩⟩
        · omega
        · rw [hmore]
          have hl1 : (X.with fa fc vs ea ec).vs.length + 1 = (flyK W.fly l k ++ [z]).length := by rw [List.length_append, ← hvl]; rfl
          rw [hl1] at hj
          exact hj
    · have hmore := flyK_full (l := l) (k := k) hflen (fun h => h4 (Int.ofNat_lt.2 h))
      (conv => whnf)
      refine RngC.mk (by omega) (by omega) ?_
      (conv => whnf)
      refine LoopE.mk ⟨_, [(90, .int .i64 ((k + 1 : Nat) : Int)), (89, _), (88, _), (0, _)], ?_, ⟨rfl, rfl, rfl, rfl, trivial⟩, ⟨k + 1, fa, fc, vs, rfl, rfl, by omega, ?_⟩⟩
      · omega
      · rw [hmore]
        exact hS.keep 17
  · obtain rfl : k = ll := by omega
    (conv => whnf)
    exact hQ _ _ ⟨fa, fc, vs, hS⟩
set_option maxHeartbeats 4000000 in
set_option maxRecDepth 10000 in
theorem wtick_ok (n : Int) (h : Stands E q m w X W) (hm : m + 34 ≤ 40000000) : CallC Tryz.prog 17 #[.pointer (some ⟨X.w, 0, none⟩), .int .i64 n] w fun v w' => v = errV E (W.tick n).1 ∧ ∃ X', X'.w = X.w ∧ Turns w w' (worldH X W) (worldH X' (W.tick n).2) := by
  refine fn_intro tabOk Tryz.func17 (by kernel_rfl) rfl Tryz.ntmps17 (Nat.le_of_ble_eq_true rfl) ?_
  (conv => whnf)
  refine (wup_ok n h).mono ?_
  rintro v w1 ⟨rfl, hx⟩
  by_cases hn : n = 0 ∨ n = 1
  case neg =>
    rw [show W.tick n = (2, W) from if_pos (by omega), show W.upErr n = 2 from if_pos (by omega)]
    repeat' ((conv => whnf); first | refine RetC.mk ?_ | refine NzC.mk (by decide) ?_ | refine RngC.mk (by omega) (by omega) ?_ | refine IdxC.mk (by omega) (by omega) ?_ | refine brD (fun _ => ?_) (fun _ => ?_) | refine brND (fun _ => ?_) (fun _ => ?_) | refine brN (fun _ => ?_) (fun _ => ?_) | refine brI (fun _ => ?_) (fun _ => ?_))
    exact ⟨rfl, X, rfl, Turns.of_no h.has hx⟩
  cases hN : (W.side n).node with
  | none =>
    rw [show W.tick n = (7, W) by unfold WorldS.tick; rw [if_neg (by omega), hN], upErr_none hn hN]
    repeat' ((conv => whnf); first | refine RetC.mk ?_ | refine NzC.mk (by decide) ?_ | refine RngC.mk (by omega) (by omega) ?_ | refine IdxC.mk (by omega) (by omega) ?_ | refine brD (fun _ => ?_) (fun _ => ?_) | refine brND (fun _ => ?_) (fun _ => ?_) | refine brN (fun _ => ?_) (fun _ => ?_) | refine brI (fun _ => ?_) (fun _ => ?_))
    exact ⟨rfl, X, rfl, Turns.of_no h.has hx⟩
  | some N =>
    rw [show W.tick n = W.ticked n N (N.tick (W.side n).byt) by unfold WorldS.tick; rw [if_neg (by omega), hN], upErr_some hn hN, if_pos rfl]
    obtain ⟨hH, hQ⟩ := h.half hn
    have hnk := ((h.ok.side hn).node N hN).1
    have hBk := (h.ok.side hn).bok
    have hflen := h.ok.fly
    have hevl := h.ok.events
    have hbok := NodeS.tick_bok (N := N) hBk
    have hshort := tick_short N (W.side n).byt
    have hcell := tick_cells N (W.side n).byt
    have hfew := tick_few hnk (W.side n).byt
    have hS := hH.start.no hx
    have hE := h.errs.ext hS.ext hQ
    have hT : ∀ {w'} {s : SideS}, Turns w w' (halfH X W n) (fixH X W (X.side n) (X.side (1 - n)) s (W.side (1 - n)) ++ sideH (X.side n) s) → ∃ X', X'.w = X.w ∧ Turns w w' (worldH X W) (worldH X' (W.setSide n s)) := fun {w'} {s} k => ⟨X, rfl, by
      have := Turns.side h.has hn (Y := X.side n) rfl k
      rwa [setSide_id hn] at this⟩
    have hT2 : ∀ {w'} {s : SideS} {f : List NoteS} {e : List (Int × Int)} {fa : Option Addr} {fc : Nat} {vs : List NoteV} {ea : Option Addr} {ec : Nat}, Turns w w' (halfH X W n) (fixH (X.with fa fc vs ea ec) (W.with f e) (X.side n) (X.side (1 - n)) s (W.side (1 - n)) ++ sideH (X.side n) s) → ∃ X', X'.w = X.w ∧ Turns w w' (worldH X W) (worldH X' ((W.setSide n s).with f e)) := fun {w'} {s} {f} {e} {fa} {fc} {vs} {ea} {ec} k => ⟨X.with fa fc vs ea ec, rfl, by
      rw [← half_with hn] at k
      exact Turns.world h.has hn k rfl (with_side hn s f e)⟩
    have hU : ∀ {w'} {s : SideS}, St w (inF (halfH X W n)) w' (fixH X W (X.side n) (X.side (1 - n)) s (W.side (1 - n)) ++ sideH (X.side n) s) → ∃ X', X'.w = X.w ∧ Turns w w' (worldH X W) (worldH X' (W.setSide n s)) := fun k => hT (St.turns k)
    have hU2 : ∀ {w'} {s : SideS} {f : List NoteS} {e : List (Int × Int)} {fa : Option Addr} {fc : Nat} {vs : List NoteV} {ea : Option Addr} {ec : Nat}, St w (inF (halfH X W n)) w' (fixH (X.with fa fc vs ea ec) (W.with f e) (X.side n) (X.side (1 - n)) s (W.side (1 - n)) ++ sideH (X.side n) s) → ∃ X', X'.w = X.w ∧ Turns w w' (worldH X W) (worldH X' ((W.setSide n s).with f e)) := fun k => hT2 (St.turns k)
    generalize hSS : inF (halfH X W n) = S at hS hU hU2
    rw [half_up hN] at hS hQ
    clear hH hx hT hT2 hSS
    generalize (W.side n).byt = B at *
    (conv => whnf)
    refine hS.ld 1 rfl (v := .pointer (some ⟨(X.side n).A.n, 0, none⟩)) rfl ?_
    (conv => whnf)
    refine hS.ld 7 rfl rfl ?_
    (conv => whnf)
    refine (role_active (hS.blk 8 rfl)).mono ?_
    rintro v w2 ⟨rfl, rfl⟩
    (conv => whnf)
    refine hS.ld 1 rfl (v := .pointer (some ⟨(X.side n).A.n, 0, none⟩)) rfl ?_
    (conv => whnf)
    have hw3 : Has _ (nodeB (X.side n).A N B) := Has.right (A := [_, _, _, _, _, _, _]) hS.has
    refine (ntick_ok hw3 hnk hBk (by omega) (hE.sub rfl) hQ.app.2).mono ?_
    rintro v w3 ⟨a, c, x, y, rfl, hk⟩
    replace hS := St.callAt (A := fixH X W (X.side n) (X.side (1 - n)) ⟨some N, B⟩ (W.side (1 - n))) (B := []) hS hk
    clear hk hw3
    generalize N.tick B = T at *
    obtain ⟨e, l, N', B'⟩ := T
    dsimp only at *
    replace hS : St w S w3 (tickH X W (X.side n) (X.side (1 - n)) N' B' (W.side (1 - n)) a c x y l) := hS
    have hnl : (l.map (noteV x y)).length = l.length := List.length_map _
    generalize hll : (l.map (noteV x y)).length = ll at hnl
    (conv => whnf)
    refine hS.ld 1 rfl rfl ?_
    (conv => whnf)
    refine (bpower_ok (hS.blk 14 rfl) hbok.len).mono ?_
    rintro v w4 ⟨rfl, hx⟩
    replace hS := hS.no hx
    clear hx
    have hpl : W.ticked n N (e, l, N', B') = if B'.off = true then (e, W.setSide n ⟨none, B'⟩) else if e ≠ 0 then (e, W.setSide n ⟨some N', B'⟩) else
      (0, (W.setSide n ⟨some N', B'⟩).with (W.fly ++ l.take (200 - W.fly.length)) (if N.role.active = false ∧ N'.role.active = true ∧ W.events.length < 1000 then W.events ++ [(n, N'.role.epoch)] else W.events)) := rfl
    rw [hpl]
    clear hpl
    cases hoff : B'.off
    case true =>
      rw [if_pos rfl]
      (conv => whnf)
      refine hS.st 1 rfl (by exact Nat.le_of_ble_eq_true rfl) rfl (fun w' hS => ?_)
      repeat' ((conv => whnf); first | refine RetC.mk ?_ | refine NzC.mk (by decide) ?_ | refine RngC.mk (by omega) (by omega) ?_ | refine IdxC.mk (by omega) (by omega) ?_ | refine brD (fun _ => ?_) (fun _ => ?_) | refine brND (fun _ => ?_) (fun _ => ?_) | refine brN (fun _ => ?_) (fun _ => ?_) | refine brI (fun _ => ?_) (fun _ => ?_))
      exact ⟨rfl, hU (s := ⟨none, B'⟩) (hS.sel [0, 1, 2, 3, 4, 5, 6, 14] (by decide))⟩
    rw [if_neg (by decide)]
    cases e with
    | succ j =>
      rw [if_pos (Nat.succ_ne_zero j)]
      repeat' ((conv => whnf); first | refine RetC.mk ?_ | refine NzC.mk (by decide) ?_ | refine RngC.mk (by omega) (by omega) ?_ | refine IdxC.mk (by omega) (by omega) ?_ | refine brD (fun _ => ?_) (fun _ => ?_) | refine brND (fun _ => ?_) (fun _ => ?_) | refine brN (fun _ => ?_) (fun _ => ?_) | refine brI (fun _ => ?_) (fun _ => ?_))
      exact ⟨rfl, hU (s := ⟨some N', B'⟩) (hS.keep 15)⟩
    | zero =>
      rw [if_neg (fun h => h rfl)]
      have hev0 : ∀ {b1 b2 : Bool}, N.role.active = b1 → N'.role.active = b2 → (b1 = true ∨ b2 = false ∨ ¬ W.events.length < 1000) → (if N.role.active = false ∧ N'.role.active = true ∧ W.events.length < 1000 then W.events ++ [(n, N'.role.epoch)] else W.events) = W.events := fun h1 h2 h3 => if_neg (by
        rw [h1, h2]
        rintro ⟨rfl, rfl, h4⟩
        rcases h3 with h3 | h3 | h3
        · cases h3
        · cases h3
        · exact h3 h4)
      have hev1 : N.role.active = false → N'.role.active = true → W.events.length < 1000 → (if N.role.active = false ∧ N'.role.active = true ∧ W.events.length < 1000 then W.events ++ [(n, N'.role.epoch)] else W.events) = W.events ++ [(n, N'.role.epoch)] := fun h1 h2 h3 => if_pos ⟨h1, h2, h3⟩
      replace hS : St w S w4 (tickH (X.with X.fa X.fc X.vs X.ea X.ec) (W.with W.fly W.events) (X.side n) (X.side (1 - n)) N' B' (W.side (1 - n)) a c x y l) := hS
      generalize hev : (if N.role.active = false ∧ N'.role.active = true ∧ W.events.length < 1000 then W.events ++ [(n, N'.role.epoch)] else W.events) = ev
      cases ha : N.role.active
      · (conv => whnf)
        refine hS.ld 1 rfl (v := .pointer (some ⟨(X.side n).A.n, 0, none⟩)) rfl ?_
        (conv => whnf)
        refine hS.ld 7 rfl rfl ?_
        (conv => whnf)
        refine (role_active (hS.blk 8 rfl)).mono ?_
        rintro v w5 ⟨rfl, rfl⟩
        cases ha2 : N'.role.active
        · rw [← hev.symm.trans (hev0 ha ha2 (.inr (.inl rfl)))] at hS
          generalize X.ea = ea at hS
          generalize X.ec = ec at hS
          clear hev hev0 hev1 ha ha2
          (conv => whnf)
          refine tickLoop (ea := ea) (ec := ec) (ev := ev) ⟨rfl, rfl, rfl, rfl, trivial⟩ hS hflen hshort hll hnl hcell hfew ?_
          rintro σ w6 ⟨fa, fc, vs, hS⟩
          rw [flyK_end hnl] at hS
          repeat' ((conv => whnf); first | refine RetC.mk ?_ | refine NzC.mk (by decide) ?_ | refine RngC.mk (by omega) (by omega) ?_ | refine IdxC.mk (by omega) (by omega) ?_ | refine brD (fun _ => ?_) (fun _ => ?_) | refine brND (fun _ => ?_) (fun _ => ?_) | refine brN (fun _ => ?_) (fun _ => ?_) | refine brI (fun _ => ?_) (fun _ => ?_))
          exact ⟨rfl, hU2 (s := ⟨some N', B'⟩) (hS.keep 15)⟩
        · (conv => whnf)
          refine hS.ld 0 rfl rfl ?_
          (conv => whnf)
          refine brD (fun h5 => ?_) (fun h5 => ?_)
          · have hv := hev.symm.trans (hev1 ha ha2 (by exact Int.ofNat_lt.1 h5))
            have hvl : ev.length = W.events.length + 1 := by rw [hv, List.length_append]; rfl
            (conv => whnf)
            refine drawT tabOk mixed [4] (evT X W) (.take 0 (.take 1 (.take 2 (.take 3 (.take 5 (.take 6 (.take 7 (.take 8 (.take 9 (.take 10 (.take 11 (.take 12 (.alt 4 (.alt 13 (.take 14 (.alt 15 (.alt 16 (.take 17 (.take 18 (.alt 19 .fin .fin))) .fin) .fin)) .fin) (.alt 13 (.take 14 (.alt 4 (.alt 15 (.alt 16 (.take 17 (.take 18 (.alt 19 .fin .fin))) .fin) .fin) (.alt 15 (.alt 4 (.alt 16 (.take 17 (.take 18 (.alt 19 .fin .fin))) .fin) .fin) .fin))) .fin)))))))))))))) (by kernel_rfl) ?_
            rintro w6 rfl
            replace hS := hS.drew
            have hK := hS.ref (evT X W)
            have hn1 := hS.ne 1 0 rfl rfl (by decide)
            have hn7 := hS.ne 7 0 rfl rfl (by decide)
            have hm1 : (X.side n).s ∉ (ownL 64 2 encEv (.slice X.ea W.events.length X.ec) W.events).foot := hS.apartAt 1 6 rfl rfl (by decide) _ (List.mem_singleton.2 rfl)
            have hm7 : (X.side n).A.n ∉ (ownL 64 2 encEv (.slice X.ea W.events.length X.ec) W.events).foot := hS.apartAt 7 6 rfl rfl (by decide) _ (List.mem_singleton.2 rfl)
            repeat' ((conv => whnf); first | refine RetC.mk ?_ | refine NzC.mk (by decide) ?_ | refine RngC.mk (by omega) (by omega) ?_ | refine IdxC.mk (by omega) (by omega) ?_ | refine hS.ld 0 rfl rfl (KeepC.mk hK ?_) | refine hS.ldF 1 rfl (v := .pointer (some ⟨(X.side n).A.n, 0, none⟩)) rfl (fun h => h.elim hn1 hm1) ?_ | refine hS.ldF 7 rfl rfl (fun h => h.elim hn7 hm7) ?_ | (refine (role_epoch (hS.blk 8 rfl)).mono ?_; rintro v w7 ⟨rfl, rfl⟩; refine KeepC.mk hK ?_) | (refine hS.litX Tryz.underlying60 (sz := 2) (by kernel_rfl) (z := .agg (encEv (0, 0)).toArray) (by kernel_rfl) rfl rfl (cs := encEv (n, N'.role.epoch)) (by rfl) (fun b9 w8 hb9 hx hS => ?_); replace hK := hK.trans hx.of_no; clear hx; refine KeepC.mk hK ?_) | (refine hS.appX codEv 6 (ys := [(n, N'.role.epoch)]) (G := fun _ => True) Tryz.underlying60 (bytes := 16) (by kernel_rfl) (z := .agg (encEv (0, 0)).toArray) (by kernel_rfl) rfl rfl (Slc.of_blk codEv (hS.blk 17 rfl) rfl (by simp) (fun _ _ => trivial) rfl) (by show W.events.length + 1 ≤ _; unfold maxLen; omega) (by show (W.events.length + 1) * 16 ≤ _; omega) (fun ea ec w9 hx hS => ?_); replace hK := hK.trans (hx.mono fun d hd => .inr (foot_own hd)); clear hx; refine KeepC.mk hK ?_) | (refine hS.stK hK 0 rfl (by exact Nat.le_of_ble_eq_true rfl) rfl (.inl rfl) (fun w' hK hS => KeepC.mk hK ?_)) | refine And.intro ?_ ?_ | refine brD (fun _ => ?_) (fun _ => ?_) | refine brND (fun _ => ?_) (fun _ => ?_) | refine brN (fun _ => ?_) (fun _ => ?_) | refine brI (fun _ => ?_) (fun _ => ?_))
            all_goals
              replace hS := hS.keep 17
              replace hS := hS.as (H' := tickH (X.with X.fa X.fc X.vs ea ec) (W.with W.fly (W.events ++ [(n, N'.role.epoch)])) (X.side n) (X.side (1 - n)) N' B' (W.side (1 - n)) a c x y l) (by
                rw [show (W.with W.fly W.events).events.length + 1 = (W.events ++ [(n, N'.role.epoch)]).length by rw [List.length_append]; rfl]
                rfl)
              rw [← hv] at hS
              clear hev hev0 hev1 ha ha2 hK
              refine tickLoop (ea := ea) (ec := ec) (ev := ev) ⟨rfl, rfl, rfl, rfl, trivial⟩ hS hflen hshort hll hnl hcell hfew ?_
              rintro σ w6 ⟨fa, fc, vs, hS⟩
              rw [flyK_end hnl] at hS
              repeat' ((conv => whnf); first | refine RetC.mk ?_ | refine NzC.mk (by decide) ?_ | refine RngC.mk (by omega) (by omega) ?_ | refine IdxC.mk (by omega) (by omega) ?_ | refine brD (fun _ => ?_) (fun _ => ?_) | refine brND (fun _ => ?_) (fun _ => ?_) | refine brN (fun _ => ?_) (fun _ => ?_) | refine brI (fun _ => ?_) (fun _ => ?_))
              exact ⟨rfl, hU2 (s := ⟨some N', B'⟩) (hS.keep 15)⟩
          · rw [← hev.symm.trans (hev0 ha ha2 (.inr (.inr fun h => h5 (by exact Int.ofNat_lt.2 h))))] at hS
            generalize X.ea = ea at hS
            generalize X.ec = ec at hS
            clear hev hev0 hev1 ha ha2
            (conv => whnf)
            refine tickLoop (ea := ea) (ec := ec) (ev := ev) ⟨rfl, rfl, rfl, rfl, trivial⟩ hS hflen hshort hll hnl hcell hfew ?_
            rintro σ w6 ⟨fa, fc, vs, hS⟩
            rw [flyK_end hnl] at hS
            repeat' ((conv => whnf); first | refine RetC.mk ?_ | refine NzC.mk (by decide) ?_ | refine RngC.mk (by omega) (by omega) ?_ | refine IdxC.mk (by omega) (by omega) ?_ | refine brD (fun _ => ?_) (fun _ => ?_) | refine brND (fun _ => ?_) (fun _ => ?_) | refine brN (fun _ => ?_) (fun _ => ?_) | refine brI (fun _ => ?_) (fun _ => ?_))
            exact ⟨rfl, hU2 (s := ⟨some N', B'⟩) (hS.keep 15)⟩
      · rw [← hev.symm.trans (hev0 ha rfl (.inl rfl))] at hS
        generalize X.ea = ea at hS
        generalize X.ec = ec at hS
        clear hev hev0 hev1 ha
        (conv => whnf)
        refine tickLoop (ea := ea) (ec := ec) (ev := ev) ⟨rfl, rfl, rfl, rfl, trivial⟩ hS hflen hshort hll hnl hcell hfew ?_
        rintro σ w6 ⟨fa, fc, vs, hS⟩
        rw [flyK_end hnl] at hS
        repeat' ((conv => whnf); first | refine RetC.mk ?_ | refine NzC.mk (by decide) ?_ | refine RngC.mk (by omega) (by omega) ?_ | refine IdxC.mk (by omega) (by omega) ?_ | refine brD (fun _ => ?_) (fun _ => ?_) | refine brND (fun _ => ?_) (fun _ => ?_) | refine brN (fun _ => ?_) (fun _ => ?_) | refine brI (fun _ => ?_) (fun _ => ?_))
        exact ⟨rfl, hU2 (s := ⟨some N', B'⟩) (hS.keep 15)⟩
end
end Go.Proofs.YtoaghhcjlfiflaaGreatDoor

namespace Go.Proofs.YtoaghhcjlfiflaaGreatDoor
open Go Ev
section
variable {w w' : World} {X : WorldA} {W : WorldS} {E : Nat → Addr} {q m : Nat}
theorem src_turns {H H' : List Ent} {b : Nat} (h : ¬ inF H b) (hb : b < w.heap.size) (k : Turns w w' H H') : ¬ inF H' b := by
  rintro ⟨e, he, hbe⟩
  rcases k.foot e he b hbe with h1 | h1
  · exact h h1
  · omega
theorem half_inF {n : Int} (hn : n = 0 ∨ n = 1) {b : Nat} (h : inF (halfH X W n) b) : inF (worldH X W) b := by
  refine inF_perm (view_perm X W hn).symm ?_
  rw [view_half]
  exact inF_app.2 (.inl h)
def NodeA.rul (A : NodeA) (ra : Option Addr) (rc : Nat) : NodeA := { A with ra := ra, rc := rc }
theorem wrule1_ok {G : RuleS → Prop} {a : Option Addr} {c l : Nat} {xs : List RuleS} {n : Int} {N : NodeS} (hn : n = 0 ∨ n = 1) (hN : (W.side n).node = some N) (hH : Has w (worldH X W)) (hx : Slc w 5 encRule G a l xs) (hl : l ≤ 1000) (hsrc : 0 < l → ∀ b0 o0, a = some ⟨b0, o0, none⟩ → ¬ inF (worldH X W) b0) (hE : Errs w E q insErrs) (h0 : (faultL xs).1 = 0) :
    CallC Tryz.prog 98 #[.pointer (some ⟨(X.side n).A.n, 0, none⟩), .slice a l c] w fun _ w' => ∃ ra rc, Turns w w' (worldH X W) (worldH (X.setSide n ⟨(X.side n).s, (X.side n).A.rul ra rc⟩) (W.setSide n ⟨some { N with rules := xs }, (W.side n).byt⟩)) := by
  have hV := hH.perm (view_perm X W hn)
  rw [view_half] at hV
  have hHf := hV.left
  have hS := hHf.start
  have hT : ∀ {w'} {ra rc}, Turns w w' (halfH X W n) (fixH X W ⟨(X.side n).s, (X.side n).A.rul ra rc⟩ (X.side (1 - n)) ⟨some { N with rules := xs }, (W.side n).byt⟩ (W.side (1 - n)) ++ nodeB ((X.side n).A.rul ra rc) { N with rules := xs } (W.side n).byt) → Turns w w' (worldH X W) (worldH (X.setSide n ⟨(X.side n).s, (X.side n).A.rul ra rc⟩) (W.setSide n ⟨some { N with rules := xs }, (W.side n).byt⟩)) := fun {w'} {ra} {rc} k => Turns.side hH hn (Y := ⟨(X.side n).s, (X.side n).A.rul ra rc⟩) (s := ⟨some { N with rules := xs }, (W.side n).byt⟩) rfl k
  have hsr : 0 < l → ∀ b0 o0, a = some ⟨b0, o0, none⟩ → ¬ inF (nodeH (X.side n).A N) b0 := fun h b0 o0 ha hb => hsrc h b0 o0 ha (half_inF hn (by
    rw [half_up hN]
    exact inF_app.2 (.inr (nodeB_H hb))))
  rw [half_up hN] at hS hT hHf
  refine (nrules_ok (A := (X.side n).A) (N := N) hx hl hHf.right.left (hE.sub rfl) hsr).mono ?_
  rintro v w' ⟨_, ra, rc, hk⟩
  rw [if_pos h0] at hk
  have hS2 := St.callAt (A := fixH X W (X.side n) (X.side (1 - n)) ⟨some N, (W.side n).byt⟩ (W.side (1 - n))) (B := [_]) hS hk
  exact ⟨ra, rc, hT (St.turns hS2)⟩
def WorldS.ruleK (W : WorldS) (l : List RuleS) : Nat → WorldS
  | 0 => { W with rules := l }
  | 1 => { W with rules := l, a := W.a.ruled l }
  | _ => W.rule l
theorem ruled_some {s : SideS} {N : NodeS} {l : List RuleS} (h : s.node = some N) : s.ruled l = ⟨some { N with rules := l }, s.byt⟩ := by
  unfold SideS.ruled
  rw [h]
  rfl
theorem ruled_none {s : SideS} {l : List RuleS} (h : s.node = none) : s.ruled l = s := by
  obtain ⟨x, y⟩ := s
  dsimp only at h
  subst h
  rfl
theorem wrules_ok {G : RuleS → Prop} {a : Option Addr} {c l : Nat} {xs : List RuleS} (hx : Slc w 5 encRule G a l xs) (hl : l ≤ 1000) (hsrc : 0 < l → ∀ b0 o0, a = some ⟨b0, o0, none⟩ → ¬ inF (worldH X W) b0) (h : Stands E q m w X W) :
    CallC Tryz.prog 51 #[.pointer (some ⟨X.w, 0, none⟩), .slice a l c] w fun v w' => FaultV E w w' v (faultL xs).1 (faultL xs).2 ∧ ∃ X', X'.w = X.w ∧ Turns w w' (worldH X W) (worldH X' (if (faultL xs).1 = 0 then W.rule xs else W)) := by
  have hlx := hx.len
  refine fn_intro tabOk Tryz.func51 (by kernel_rfl) rfl Tryz.ntmps51 (Nat.le_of_ble_eq_true rfl) ?_
  (conv => whnf)
  refine (rcheck_ok hx (h.errs.sub rfl)).mono ?_
  rintro v w1 ⟨hF, hx1⟩
  by_cases h0 : (faultL xs).1 = 0
  case neg =>
    rw [if_neg h0]
    obtain ⟨j, hj⟩ : ∃ j, (faultL xs).1 = j + 1 := ⟨(faultL xs).1 - 1, by omega⟩
    rw [hj] at hF ⊢
    rcases id hF with ⟨_, rfl⟩ | ⟨_, _, f, rfl, _⟩
    · repeat' ((conv => whnf); first | refine RetC.mk ?_ | refine NzC.mk (by decide) ?_ | refine RngC.mk (by omega) (by omega) ?_ | refine IdxC.mk (by omega) (by omega) ?_ | refine brD (fun _ => ?_) (fun _ => ?_) | refine brND (fun _ => ?_) (fun _ => ?_) | refine brN (fun _ => ?_) (fun _ => ?_) | refine brI (fun _ => ?_) (fun _ => ?_))
      exact ⟨hF, X, rfl, Turns.of_no h.has hx1⟩
    · repeat' ((conv => whnf); first | refine RetC.mk ?_ | refine NzC.mk (by decide) ?_ | refine RngC.mk (by omega) (by omega) ?_ | refine IdxC.mk (by omega) (by omega) ?_ | refine brD (fun _ => ?_) (fun _ => ?_) | refine brND (fun _ => ?_) (fun _ => ?_) | refine brN (fun _ => ?_) (fun _ => ?_) | refine brI (fun _ => ?_) (fun _ => ?_))
      exact ⟨hF, X, rfl, Turns.of_no h.has hx1⟩
  rw [if_pos h0]
  obtain rfl : v = .nilIface := by
    rw [h0] at hF
    rcases hF with ⟨_, h⟩ | ⟨_, h, _⟩
    · exact h
    · exact absurd h (by decide)
  have hat : (faultL xs).2 = -1 := by
    rcases hF with ⟨h, _⟩ | ⟨_, h, _⟩
    · exact h
    · omega
  clear hF
  have hS := h.fix.1.start.no hx1
  (conv => whnf)
  refine (rclone_ok (hx.no hx1) hl).mono ?_
  rintro v w2 ⟨a2, c2, rfl, hx2, ho, hf⟩
  replace hS := hS.made hx2 ownL_local ho (fun g hg => hf g (by simpa [ownL, own] using hg))
  clear hx1 hx2 ho hf
  (conv => whnf)
  refine hS.st 0 rfl (Nat.le_of_ble_eq_true rfl) rfl (fun w3 hS => ?_)
  (conv => whnf)
  refine hS.laX 0 rfl rfl ?_
  have hk3 : Turns w w3 (worldH X W) (worldH { X with ra := a2, rc := c2 } (W.ruleK xs 0)) := by
    refine Turns.fixed h.has ?_ rfl rfl rfl rfl
    have hS2 := hS.sel [0, 1, 2, 7, 4, 5, 6] (by decide)
    rw [← hlx] at hS2
    exact St.turns hS2
  clear hS
  (conv => whnf)
  refine loopR tabOk (fun σ w' q' => ∃ (k : Nat) (X' : WorldA), X'.w = X.w ∧ X'.a.s = X.a.s ∧ X'.b.s = X.b.s ∧ σ = [(22, .int .i64 k), (21, .agg #[.pointer (some ⟨X.a.s, 0, none⟩), .pointer (some ⟨X.b.s, 0, none⟩)]), (1, .slice a l c)] ∧ q' = 2 - k ∧ k ≤ 2 ∧ Turns w w' (worldH X W) (worldH X' (W.ruleK xs k)))
    (σ' := [(22, .int .i64 ((0 : Nat) : Int)), (21, .agg #[.pointer (some ⟨X.a.s, 0, none⟩), .pointer (some ⟨X.b.s, 0, none⟩)]), (1, .slice a l c)]) (n := 2) ⟨rfl, rfl, rfl, trivial⟩ ⟨0, { X with ra := a2, rc := c2 }, rfl, rfl, rfl, rfl, rfl, Nat.zero_le _, hk3⟩ ?_
  clear hk3
  rintro _ w4 q' ⟨k, X', hw, ha, hb, rfl, rfl, hk, hT⟩
  have hsr2 : 0 < l → ∀ b0 o0, a = some ⟨b0, o0, none⟩ → ¬ inF (worldH X' (W.ruleK xs k)) b0 := fun h1 b0 o0 h2 => by
    obtain ⟨b1, o1, x, _, _, h3, h4, _⟩ := hx.at h1
    rw [h2] at h3
    simp only [Option.some.injEq, Addr.mk.injEq] at h3
    obtain ⟨rfl, _⟩ := h3
    exact src_turns (hsrc h1 _ _ h2) h4 hT
  have hE := h.errs.turns h.high hT
  have hx4 : Slc w4 5 encRule G a l xs := hx.extN hT.ext hsrc
  (conv => whnf)
  refine brD (fun h3 => ?_) (fun h3 => ?_)
  · have hk2 : k = 0 ∨ k = 1 := by omega
    rcases hk2 with rfl | rfl
    · (conv => whnf)
      refine PureC.of (v := .pointer (some ⟨X.a.s, 0, none⟩)) (fun w => by kernel_rfl) ?_
      have hS := hT.has.start
      cases hN : W.a.node with
      | none =>
        (conv => whnf)
        refine hS.ld 1 (b := X.a.s) (t := 101) (cs := encSide X'.a W.a) (by rw [← ha]; rfl) (v := .pointer none) (by rw [encSide_none hN]; rfl) ?_
        (conv => whnf)
        refine RngC.mk (by omega) (by omega) ?_
        (conv => whnf)
        refine LoopE.mk ⟨_, [(22, .int .i64 ((1 : Nat) : Int)), (21, _), (1, _)], ?_, ⟨rfl, rfl, rfl, trivial⟩, ⟨1, X', hw, ha, hb, rfl, rfl, by omega, by rw [show W.ruleK xs 1 = W.ruleK xs 0 by show ({ W with rules := xs, a := W.a.ruled xs } : WorldS) = { W with rules := xs }; rw [ruled_none hN]]; exact hT⟩⟩
        omega
      | some N =>
        (conv => whnf)
        refine hS.ld 1 (b := X.a.s) (t := 101) (cs := encSide X'.a W.a) (by rw [← ha]; rfl) (v := .pointer (some ⟨X'.a.A.n, 0, none⟩)) (by rw [encSide_some hN]; rfl) ?_
        (conv => whnf)
        refine hS.ld 1 (b := X.a.s) (t := 101) (cs := encSide X'.a W.a) (by rw [← ha]; rfl) (v := .pointer (some ⟨X'.a.A.n, 0, none⟩)) (by rw [encSide_some hN]; rfl) ?_
        (conv => whnf)
        refine (wrule1_ok (n := 0) (X := X') (W := W.ruleK xs 0) (.inl rfl) hN hT.has hx4 hl hsr2 hE h0).mono ?_
        rintro v w5 ⟨ra, rc, hk5⟩
        have hT2 := hT.trans hk5
        (conv => whnf)
        refine RngC.mk (by omega) (by omega) ?_
        (conv => whnf)
        refine LoopE.mk ⟨_, [(22, .int .i64 ((1 : Nat) : Int)), (21, _), (1, _)], ?_, ⟨rfl, rfl, rfl, trivial⟩, ⟨1, X'.setSide 0 ⟨(X'.side 0).s, (X'.side 0).A.rul ra rc⟩, hw, ha, hb, rfl, rfl, by omega, by rw [show W.ruleK xs 1 = (W.ruleK xs 0).setSide 0 ⟨some { N with rules := xs }, ((W.ruleK xs 0).side 0).byt⟩ by show ({ W with rules := xs, a := W.a.ruled xs } : WorldS) = _; rw [ruled_some hN]; rfl]; exact hT2⟩⟩
        omega
    · (conv => whnf)
      refine PureC.of (v := .pointer (some ⟨X.b.s, 0, none⟩)) (fun w => by kernel_rfl) ?_
      have hS := hT.has.start
      cases hN : W.b.node with
      | none =>
        (conv => whnf)
        refine hS.ld 2 (b := X.b.s) (t := 101) (cs := encSide X'.b W.b) (by rw [← hb]; rfl) (v := .pointer none) (by rw [encSide_none hN]; rfl) ?_
        (conv => whnf)
        refine RngC.mk (by omega) (by omega) ?_
        (conv => whnf)
        refine LoopE.mk ⟨_, [(22, .int .i64 ((2 : Nat) : Int)), (21, _), (1, _)], ?_, ⟨rfl, rfl, rfl, trivial⟩, ⟨2, X', hw, ha, hb, rfl, rfl, by omega, by rw [show W.ruleK xs 2 = W.ruleK xs 1 by show ({ W with rules := xs, a := W.a.ruled xs, b := W.b.ruled xs } : WorldS) = { W with rules := xs, a := W.a.ruled xs }; rw [ruled_none hN]]; exact hT⟩⟩
        omega
      | some N =>
        (conv => whnf)
        refine hS.ld 2 (b := X.b.s) (t := 101) (cs := encSide X'.b W.b) (by rw [← hb]; rfl) (v := .pointer (some ⟨X'.b.A.n, 0, none⟩)) (by rw [encSide_some hN]; rfl) ?_
        (conv => whnf)
        refine hS.ld 2 (b := X.b.s) (t := 101) (cs := encSide X'.b W.b) (by rw [← hb]; rfl) (v := .pointer (some ⟨X'.b.A.n, 0, none⟩)) (by rw [encSide_some hN]; rfl) ?_
        (conv => whnf)
        refine (wrule1_ok (n := 1) (X := X') (W := W.ruleK xs 1) (.inr rfl) hN hT.has hx4 hl hsr2 hE h0).mono ?_
        rintro v w5 ⟨ra, rc, hk5⟩
        have hT2 := hT.trans hk5
        (conv => whnf)
        refine RngC.mk (by omega) (by omega) ?_
        (conv => whnf)
        refine LoopE.mk ⟨_, [(22, .int .i64 ((2 : Nat) : Int)), (21, _), (1, _)], ?_, ⟨rfl, rfl, rfl, trivial⟩, ⟨2, X'.setSide 1 ⟨(X'.side 1).s, (X'.side 1).A.rul ra rc⟩, hw, ha, hb, rfl, rfl, by omega, by rw [show W.ruleK xs 2 = (W.ruleK xs 1).setSide 1 ⟨some { N with rules := xs }, ((W.ruleK xs 1).side 1).byt⟩ by show ({ W with rules := xs, a := W.a.ruled xs, b := W.b.ruled xs } : WorldS) = _; rw [ruled_some hN]; rfl]; exact hT2⟩⟩
        omega
  · obtain rfl : k = 2 := by omega
    repeat' ((conv => whnf); first | refine RetC.mk ?_ | refine NzC.mk (by decide) ?_ | refine RngC.mk (by omega) (by omega) ?_ | refine IdxC.mk (by omega) (by omega) ?_ | refine brD (fun _ => ?_) (fun _ => ?_) | refine brND (fun _ => ?_) (fun _ => ?_) | refine brN (fun _ => ?_) (fun _ => ?_) | refine brI (fun _ => ?_) (fun _ => ?_))
    rw [h0, hat]
    exact ⟨.inl ⟨rfl, rfl⟩, X', hw, hT⟩
theorem wnew_bad {G : RuleS → Prop} {a : Option Addr} {n c : Nat} {xs : List RuleS} (hx : Slc w 5 encRule G a n xs) (hE : Errs w E q insErrs) (h0 : (faultL xs).1 ≠ 0) :
    CallC Tryz.prog 11 #[.slice a n c] w fun v w' => (∃ e, v = .tuple #[.pointer none, e] ∧ FaultV E w w' e (faultL xs).1 (faultL xs).2) ∧ Ext No w w' := by
  refine fn_intro tabOk Tryz.func11 (by kernel_rfl) rfl Tryz.ntmps11 (Nat.le_of_ble_eq_true rfl) ?_
  (conv => whnf)
  refine (rcheck_ok hx (hE.sub rfl)).mono ?_
  rintro v w1 ⟨hF, hx1⟩
  obtain ⟨j, hj⟩ : ∃ j, (faultL xs).1 = j + 1 := ⟨(faultL xs).1 - 1, by omega⟩
  rw [hj] at hF ⊢
  rcases id hF with ⟨_, rfl⟩ | ⟨_, _, f, rfl, _⟩
  · repeat' ((conv => whnf); first | refine RetC.mk ?_ | refine NzC.mk (by decide) ?_ | refine RngC.mk (by omega) (by omega) ?_ | refine IdxC.mk (by omega) (by omega) ?_ | refine brD (fun _ => ?_) (fun _ => ?_) | refine brND (fun _ => ?_) (fun _ => ?_) | refine brN (fun _ => ?_) (fun _ => ?_) | refine brI (fun _ => ?_) (fun _ => ?_))
    exact ⟨⟨_, rfl, hF⟩, hx1⟩
  · repeat' ((conv => whnf); first | refine RetC.mk ?_ | refine NzC.mk (by decide) ?_ | refine RngC.mk (by omega) (by omega) ?_ | refine IdxC.mk (by omega) (by omega) ?_ | refine brD (fun _ => ?_) (fun _ => ?_) | refine brND (fun _ => ?_) (fun _ => ?_) | refine brN (fun _ => ?_) (fun _ => ?_) | refine brI (fun _ => ?_) (fun _ => ?_))
    exact ⟨⟨_, rfl, hF⟩, hx1⟩
def bornCells (s0 s1 : Option Addr) (a : Option Addr) (n c : Nat) : List Value := [.pointer s0, .pointer s1, .slice a n c, .slice none 0 0, .int .i64 (-1), .int .i64 0, .slice none 0 0]
def madeH (bw : Nat) (a : Option Addr) (c : Nat) (xs : List RuleS) (N : Int → NodeS) (B : Int → BytS) (Y Z : SideA) : Nat → List Ent
  | 0 => [blk bw 96 (bornCells none none a xs.length c), ownL 92 5 encRule (.slice a xs.length c) xs]
  | 1 => [blk bw 96 (bornCells (some ⟨Y.s, 0, none⟩) none a xs.length c), ownL 92 5 encRule (.slice a xs.length c) xs, blk Y.s 101 [.pointer (some ⟨Y.A.n, 0, none⟩), .pointer (some ⟨Y.A.b, 0, none⟩)]] ++ nodeB Y.A (N 0) (B 0)
  | _ => [blk bw 96 (bornCells (some ⟨Y.s, 0, none⟩) (some ⟨Z.s, 0, none⟩) a xs.length c), ownL 92 5 encRule (.slice a xs.length c) xs, blk Y.s 101 [.pointer (some ⟨Y.A.n, 0, none⟩), .pointer (some ⟨Y.A.b, 0, none⟩)], blk Z.s 101 [.pointer (some ⟨Z.A.n, 0, none⟩), .pointer (some ⟨Z.A.b, 0, none⟩)]] ++ (nodeB Y.A (N 0) (B 0) ++ nodeB Z.A (N 1) (B 1))
theorem wnew_ok {G : RuleS → Prop} {a : Option Addr} {n c : Nat} {xs : List RuleS} (hx : Slc w 5 encRule G a n xs) (hn : n ≤ 1000) (hE : Errs w E q insErrs) (hq : q ≤ w.heap.size) (h0 : (faultL xs).1 = 0) :
    CallC Tryz.prog 11 #[.slice a n c] w fun v w' => ∃ X, v = .tuple #[.pointer (some ⟨X.w, 0, none⟩), .nilIface] ∧ Ext No w w' ∧ Stands E q 0 w' X (.born xs) ∧ ∀ b, inF (worldH X (.born xs)) b → w.heap.size ≤ b := by
  obtain ⟨hb0, hb1, hok⟩ := WOk.born (fault_good.1 h0)
  have hl := hx.len
  have hby : BOk by0 := ⟨by simp [by0], by decide, by decide⟩
  refine fn_intro tabOk Tryz.func11 (by kernel_rfl) rfl Tryz.ntmps11 (Nat.le_of_ble_eq_true rfl) ?_
  have hS := St.start w No
  (conv => whnf)
  refine (rcheck_ok hx (hE.sub rfl)).mono ?_
  rintro v w1 ⟨hF, hx1⟩
  obtain rfl : v = .nilIface := by
    rw [h0] at hF
    rcases hF with ⟨_, h⟩ | ⟨_, h, _⟩
    · exact h
    · exact absurd h (by decide)
  clear hF
  replace hS := hS.no hx1
  (conv => whnf)
  refine (rclone_ok (hx.no hS.ext) hn).mono ?_
  rintro v w2 ⟨a2, c2, rfl, hx2, ho, hf⟩
  replace hS := hS.made hx2 ownL_local ho (fun g hg => hf g (by simpa [ownL, own] using hg))
  clear hx1 hx2 ho hf
  (conv => whnf)
  refine hS.new (fun bw w3 hbw hS => ?_)
  replace hS := hS.sel [1, 0] (by decide)
  rw [← hl] at hS
  replace hS : St w No w3 (madeH bw a2 c2 xs (fun i => (newN i by0 xs).2.1) (fun i => (newN i by0 xs).2.2) ⟨0, ⟨0, 0, 0, 0, 0, 0, 0, none, 0⟩⟩ ⟨0, ⟨0, 0, 0, 0, 0, 0, 0, none, 0⟩⟩ 0) := hS
  generalize hNf : (fun i => (newN i by0 xs).2.1) = N at hS
  generalize hBf : (fun i => (newN i by0 xs).2.2) = B at hS
  have e0 : N 0 = (newN 0 by0 xs).2.1 ∧ B 0 = (newN 0 by0 xs).2.2 ∧ N 1 = (newN 1 by0 xs).2.1 ∧ B 1 = (newN 1 by0 xs).2.2 := by subst hNf hBf; exact ⟨rfl, rfl, rfl, rfl⟩
  have hbn : WorldS.born xs = ⟨⟨some (N 0), B 0⟩, ⟨some (N 1), B 1⟩, xs, [], -1, 0, []⟩ := by subst hNf hBf; rfl
  rw [hbn] at hok ⊢
  clear hNf hBf hbn
  have hsrc : ∀ {b : Nat}, w.heap.size ≤ b → 0 < n → ∀ b0 o0, a = some ⟨b0, o0, none⟩ → b0 ≠ b := fun hb h1 b0 o0 h2 => by
    obtain ⟨b1, o1, x, _, _, h3, h4, _⟩ := hx.at h1
    rw [h2] at h3
    simp only [Option.some.injEq, Addr.mk.injEq] at h3
    obtain ⟨rfl, _⟩ := h3
    omega
  (conv => whnf)
  refine loopR tabOk (fun σ w' q' => ∃ (k : Nat) (Y Z : SideA), σ = [(19, .int .i64 k), (5, .pointer (some ⟨bw, 0, none⟩)), (0, .slice a n c)] ∧ q' = 2 - k ∧ k ≤ 2 ∧ St w No w' (madeH bw a2 c2 xs N B Y Z k))
    (σ' := [(19, .int .i64 ((0 : Nat) : Int)), (5, .pointer (some ⟨bw, 0, none⟩)), (0, .slice a n c)]) (n := 2) ⟨rfl, rfl, rfl, trivial⟩ ⟨0, _, _, rfl, rfl, Nat.zero_le _, hS⟩ ?_
  clear hS
  rintro _ w4 q' ⟨k, Y, Z, rfl, rfl, hk, hS⟩
  (conv => whnf)
  refine brD (fun h3 => ?_) (fun h3 => ?_)
  · have hk2 : k = 0 ∨ k = 1 := by omega
    rcases hk2 with rfl | rfl
    · have hsz := hS.ext.size
      (conv => whnf)
      refine (newBytes_ok _).mono ?_
      rintro v w5 ⟨bb, rfl, hbb, hxb, hB⟩
      replace hS := hS.made hxb (blk_local _ _ _) hB (by simp [blk]; exact ⟨hbb, hB.lt⟩)
      have hwb : w.heap.size ≤ bb := Nat.le_trans hsz hbb
      clear hxb hB
      (conv => whnf)
      refine (nnew_ok 0 (.inl rfl) (hx.no hS.ext) hn h0 (hsrc hwb) (hS.blk 2 rfl) hby rfl ((hE.ext hS.ext fun _ h => h.elim).sub rfl) (Nat.le_trans hq hwb)).mono ?_
      rintro v w6 hnew
      rcases hnew with ⟨_, A, hAb, rfl, hk6⟩ | ⟨h9, _⟩
      case inr => exact absurd hb0 h9
      rw [← e0.1, ← e0.2.1] at hk6
      have hS2 := St.callAt (A := [_, _]) (B := []) hS hk6
      subst hAb
      (conv => whnf)
      refine hS2.new (fun bs w7 hbs hS => ?_)
      (conv => whnf)
      refine IdxC.mk (by decide) (by decide) ?_
      (conv => whnf)
      refine hS.st 0 rfl (Nat.le_of_ble_eq_true rfl) rfl (fun w8 hS => ?_)
      (conv => whnf)
      refine RngC.mk (by omega) (by omega) ?_
      (conv => whnf)
      refine LoopE.mk ⟨_, [(19, .int .i64 ((1 : Nat) : Int)), (5, _), (0, _)], ?_, ⟨rfl, rfl, rfl, trivial⟩, ⟨1, ⟨bs, A⟩, Z, rfl, rfl, by omega, hS.sel [0, 1, 10, 2, 3, 4, 5, 6, 7, 8, 9] (by decide)⟩⟩
      omega
    · have hsz := hS.ext.size
      (conv => whnf)
      refine (newBytes_ok _).mono ?_
      rintro v w5 ⟨bb, rfl, hbb, hxb, hB⟩
      replace hS := hS.made hxb (blk_local _ _ _) hB (by simp [blk]; exact ⟨hbb, hB.lt⟩)
      have hwb : w.heap.size ≤ bb := Nat.le_trans hsz hbb
      clear hxb hB
      (conv => whnf)
      refine (nnew_ok 1 (.inr rfl) (hx.no hS.ext) hn h0 (hsrc hwb) (hS.blk 11 rfl) hby rfl ((hE.ext hS.ext fun _ h => h.elim).sub rfl) (Nat.le_trans hq hwb)).mono ?_
      rintro v w6 hnew
      rcases hnew with ⟨_, A, hAb, rfl, hk6⟩ | ⟨h9, _⟩
      case inr => exact absurd hb1 h9
      rw [← e0.2.2.1, ← e0.2.2.2] at hk6
      have hS2 := St.callAt (A := [_, _, _, _, _, _, _, _, _, _, _]) (B := []) hS hk6
      subst hAb
      (conv => whnf)
      refine hS2.new (fun bs w7 hbs hS => ?_)
      (conv => whnf)
      refine IdxC.mk (by decide) (by decide) ?_
      (conv => whnf)
      refine hS.st 0 rfl (Nat.le_of_ble_eq_true rfl) rfl (fun w8 hS => ?_)
      (conv => whnf)
      refine RngC.mk (by omega) (by omega) ?_
      (conv => whnf)
      refine LoopE.mk ⟨_, [(19, .int .i64 ((2 : Nat) : Int)), (5, _), (0, _)], ?_, ⟨rfl, rfl, rfl, trivial⟩, ⟨2, Y, ⟨bs, A⟩, rfl, rfl, by omega, hS.sel [0, 1, 2, 19, 3, 4, 5, 6, 7, 8, 9, 10, 11, 12, 13, 14, 15, 16, 17, 18] (by decide)⟩⟩
      omega
  · obtain rfl : k = 2 := by omega
    have hS2 := (((hS.addNil 107 5 encNV).add (e := cellsE [] []) cellsE_local (cellsE_nil _) (fun b hb => by simp [cellsE] at hb) (fun f _ b _ hb => by simp [cellsE] at hb)).addNil 64 2 encEv).sel [0, 2, 3, 1, 20, 21, 22, 4, 5, 6, 7, 8, 9, 10, 11, 12, 13, 14, 15, 16, 17, 18, 19] (by decide)
    replace hS2 : St w No w4 (worldH ⟨bw, Y, Z, a2, c2, none, 0, [], none, 0⟩ ⟨⟨some (N 0), B 0⟩, ⟨some (N 1), B 1⟩, xs, [], -1, 0, []⟩) := hS2
    have hfr : ∀ b, inF (worldH ⟨bw, Y, Z, a2, c2, none, 0, [], none, 0⟩ ⟨⟨some (N 0), B 0⟩, ⟨some (N 1), B 1⟩, xs, [], -1, 0, []⟩) b → w.heap.size ≤ b := fun b ⟨e, he, hb⟩ => (hS2.may e he b hb).1.elim (fun h => h.elim) id
    repeat' ((conv => whnf); first | refine RetC.mk ?_ | refine NzC.mk (by decide) ?_ | refine RngC.mk (by omega) (by omega) ?_ | refine IdxC.mk (by omega) (by omega) ?_ | refine brD (fun _ => ?_) (fun _ => ?_) | refine brND (fun _ => ?_) (fun _ => ?_) | refine brN (fun _ => ?_) (fun _ => ?_) | refine brI (fun _ => ?_) (fun _ => ?_))
    exact ⟨⟨bw, Y, Z, a2, c2, none, 0, [], none, 0⟩, rfl, hS2.ext, ⟨hS2.has, hok, hE.ext hS2.ext fun _ h => h.elim, fun b hb => Nat.le_trans hq (hfr b hb)⟩, hfr⟩
end
end Go.Proofs.YtoaghhcjlfiflaaGreatDoor

namespace Go.Proofs.YtoaghhcjlfiflaaGreatDoor
open Go Ev
section
variable {w w' : World} {X : WorldA} {W : WorldS} {E : Nat → Addr} {q m : Nat}
end
end Go.Proofs.YtoaghhcjlfiflaaGreatDoor

namespace Go.Proofs.YtoaghhcjlfiflaaGreatDoor
open Go Ev
section
variable {w w' : World} {X : WorldA} {W : WorldS} {E : Nat → Addr} {q m : Nat}
end
end Go.Proofs.YtoaghhcjlfiflaaGreatDoor

namespace Go.Proofs.YtoaghhcjlfiflaaGreatDoor
open Go Ev
section
variable {w w' : World} {X : WorldA} {W : WorldS} {E : Nat → Addr} {q m : Nat}
end
end Go.Proofs.YtoaghhcjlfiflaaGreatDoor

namespace Go.Proofs.YtoaghhcjlfiflaaGreatDoor
open Go Ev
theorem setSide_fly (W : WorldS) (n : Int) (s : SideS) : (W.setSide n s).fly = W.fly := by
  unfold WorldS.setSide
  split <;> rfl
theorem got_fly (W : WorldS) (x : NoteS) : (W.got x).fly = W.fly := by
  unfold WorldS.got
  repeat' split
  all_goals first | rfl | exact setSide_fly _ _ _
theorem deliver0 {W : WorldS} {j : Nat} (h : W.fly.length = j + 1) : (W.deliver 0).1 = 0 ∧ (W.deliver 0).2.fly.length = j := by
  unfold WorldS.deliver
  have ha : W.at_ 0 = 0 := by unfold WorldS.at_; rw [if_neg (by omega)]
  rw [if_neg (fun h => h ha)]
  obtain ⟨x, hx⟩ : ∃ x, W.fly[(0 : Int).toNat]? = some x := ⟨_, List.getElem?_eq_getElem (show 0 < W.fly.length by omega)⟩
  rw [hx]
  refine ⟨rfl, ?_⟩
  show ((W.off 0).got x).fly.length = j
  rw [got_fly]
  show (W.fly.eraseIdx 0).length = j
  rw [List.length_eraseIdx, if_pos (by omega)]
  omega
theorem deliver_none {W : WorldS} (h : W.fly.length = 0) : W.deliver 0 = (4, W) := by
  have ha : W.at_ 0 = 4 := by unfold WorldS.at_; rw [if_pos (by omega)]
  unfold WorldS.deliver
  rw [if_pos (by rw [ha]; decide), ha]
section
variable {w w' : World} {X : WorldA} {W : WorldS} {E : Nat → Addr} {q m : Nat}
end
end Go.Proofs.YtoaghhcjlfiflaaGreatDoor

namespace Go.Proofs.YtoaghhcjlfiflaaGreatDoor
open Go Ev
section
variable {n : Int} {k c l lo : Nat} {ep sil : Int} {N : NodeS} {B : BytS}
theorem tick_rest (ha : N.role = ⟨n, ep, sil, true⟩) (hk : N.now < 1099511627776) (hm : (N.now + 1).tmod 3 ≠ 0) :
    N.tick B = (0, [], { N with now := N.now + 1, tab := N.tab.expire (N.now + 1) }, B) := by
  have hrt : N.role.tick = (false, N.role) := by
    unfold RoleS.tick
    rw [if_pos (by rw [ha])]
  have hst : N.step = (false, { N with now := N.now + 1, tab := N.tab.expire (N.now + 1) }) := by
    unfold NodeS.step
    rw [hrt]
  have hb : N.step.2.beat = false := by
    rw [hst]
    unfold NodeS.beat
    dsimp only
    rw [decide_eq_false hm, Bool.and_false]
  unfold NodeS.tick
  rw [if_neg (by omega), if_neg (by rw [hst]; simp), notes_ff hb, hst]
theorem tick_beat (ha : N.role = ⟨n, ep, sil, true⟩) (hk : N.now < 1099511627776) (hm : (N.now + 1).tmod 3 = 0) :
    N.tick B = (0, [⟨N.id, N.cell.li, ep, true, []⟩, ⟨N.id, N.cell.li, ep, false, outC (N.tab.expire (N.now + 1)).cells (N.tel.picks (N.tab.expire (N.now + 1)).cells)⟩], { N with now := N.now + 1, tab := N.tab.expire (N.now + 1), tel := N.tel.next (N.tab.expire (N.now + 1)).cells }, B) := by
  have hrt : N.role.tick = (false, N.role) := by
    unfold RoleS.tick
    rw [if_pos (by rw [ha])]
  have hst : N.step = (false, { N with now := N.now + 1, tab := N.tab.expire (N.now + 1) }) := by
    unfold NodeS.step
    rw [hrt]
  have hb : N.step.2.beat = true := by
    rw [hst]
    unfold NodeS.beat
    dsimp only
    rw [ha, decide_eq_true hm]
    rfl
  unfold NodeS.tick
  rw [if_neg (by omega), if_neg (by rw [hst]; simp), notes_t hb, hst]
  dsimp only
  rw [ha]
end

def WorldS.dl (W : WorldS) : Nat → WorldS
  | 0 => W
  | k + 1 => ((W.dl k).deliver 0).2
section
variable {W : WorldS} {n : Int} {N M N' : NodeS} {B C B' : BytS} {t e : Int} {x y : NoteS}
theorem dl_next (W : WorldS) : ∀ k : Nat, W.dl (k + 1) = (W.deliver 0).2.dl k
  | 0 => rfl
  | k + 1 => by
    show ((W.dl (k + 1)).deliver 0).2 = (((W.deliver 0).2.dl k).deliver 0).2
    rw [dl_next W k]
theorem dl_nil (h : W.fly = []) (k : Nat) : W.dl k = W := by
  induction k with
  | zero => rfl
  | succ k ih =>
    show ((W.dl k).deliver 0).2 = W
    rw [ih, deliver_none (by rw [h]; rfl)]
theorem deliver_cons {r : List NoteS} (h : W.fly = x :: r) : (W.deliver 0).2 = (W.off 0).got x ∧ ((W.off 0).got x).fly = r := by
  unfold WorldS.deliver WorldS.at_
  rw [h, if_neg (by simp)]
  refine ⟨rfl, ?_⟩
  rw [got_fly]
  show W.fly.eraseIdx _ = r
  rw [h]
  rfl
structure Pr (n : Int) (W : WorldS) (N M : NodeS) (B C : BytS) (t e : Int) : Prop where
  fly : W.fly = []
  x : W.side n = ⟨some N, B⟩
  y : W.side (1 - n) = ⟨some M, C⟩
  to : W.to = t
  ep : W.epoch = e
theorem sides_set (hn : n = 0 ∨ n = 1) (W : WorldS) (s : SideS) : (W.setSide n s).side n = s ∧ (W.setSide n s).side (1 - n) = W.side (1 - n) ∧ (W.setSide n s).to = W.to ∧ (W.setSide n s).epoch = W.epoch ∧ (W.setSide n s).fly = W.fly := by
  rcases hn with rfl | rfl <;> exact ⟨rfl, rfl, rfl, rfl, rfl⟩
theorem ticked_pr (hn : n = 0 ∨ n = 1) (h : Pr n W N M B C t e) {l : List NoteS} (ht : N.tick B = (0, l, N', B')) (hl : l.length ≤ 8) (ho : B'.off = false) :
    (W.tick n).1 = 0 ∧ (W.tick n).2.fly = l ∧ (W.tick n).2.side n = ⟨some N', B'⟩ ∧ (W.tick n).2.side (1 - n) = ⟨some M, C⟩ ∧ (W.tick n).2.to = t ∧ (W.tick n).2.epoch = e := by
  obtain ⟨s1, s2, s3, s4, s5⟩ := sides_set hn W ⟨some N', B'⟩
  have hw : W.tick n = W.ticked n N (0, l, N', B') := by
    unfold WorldS.tick
    rw [if_neg (by omega), h.x]
    dsimp only
    rw [ht]
  rw [hw]
  unfold WorldS.ticked
  dsimp only
  rw [if_neg (by rw [ho]; decide), if_neg (by simp)]
  have hsd : ∀ (V : WorldS) (ev : List (Int × Int)) (fl : List NoteS) (q : Int), ({ V with events := ev, fly := fl } : WorldS).side q = V.side q := fun _ _ _ _ => rfl
  refine ⟨rfl, ?_, ?_, ?_, ?_, ?_⟩
  · rw [h.fly, List.nil_append]
    exact List.take_of_length_le (by simp; omega)
  · dsimp only
    rw [hsd, s1]
  · dsimp only
    rw [hsd, s2, h.y]
  · exact s3.trans h.to
  · exact s4.trans h.ep
theorem half0 (hn : n = 0 ∨ n = 1) (h : Pr n W N M B C t e) (ht : N.tick B = (0, [], N', B')) (ho : B'.off = false) : (W.tick n).1 = 0 ∧ Pr n ((W.tick n).2.dl 8) N' M B' C t e := by
  obtain ⟨a1, a2, a3, a4, a5, a6⟩ := ticked_pr hn h ht (by simp) ho
  refine ⟨a1, ?_⟩
  rw [dl_nil a2]
  exact ⟨a2, a3, a4, a5, a6⟩
theorem half2 (hn : n = 0 ∨ n = 1) (h : Pr n W N M B C t e) (ht : N.tick B = (0, [x, y], N', B')) (hx : x.claim = true ∧ x.fro = n) (hy : y.claim = false ∧ y.fro = n) (ho : B'.off = false) : (W.tick n).1 = 0 ∧ Pr n ((W.tick n).2.dl 8) N' (M.hear y).2 B' C (if x.epoch > e ∨ t < 0 then n else t) (if x.epoch > e ∨ t < 0 then x.epoch else e) := by
  obtain ⟨a1, a2, a3, a4, a5, a6⟩ := ticked_pr hn h ht (by simp) ho
  refine ⟨a1, ?_⟩
  obtain ⟨d1, d2⟩ := deliver_cons a2
  obtain ⟨d3, d4⟩ := deliver_cons d2
  rw [dl_next, d1, dl_next, d3, dl_nil d4]
  have hg : ∀ V : WorldS, V.side n = ⟨some N', B'⟩ → V.side (1 - n) = ⟨some M, C⟩ → V.fly = [y] → ((V.off 0).got y).side n = ⟨some N', B'⟩ ∧ ((V.off 0).got y).side (1 - n) = ⟨some (M.hear y).2, C⟩ ∧ ((V.off 0).got y).to = V.to ∧ ((V.off 0).got y).epoch = V.epoch := by
    intro V v1 v2 v3
    have hn2 : 1 - n = 0 ∨ 1 - n = 1 := by omega
    obtain ⟨s1, s2, s3, s4, s5⟩ := sides_set hn2 (V.off 0) ⟨some (M.hear y).2, C⟩
    have hv : (V.off 0).got y = (V.off 0).setSide (1 - n) ⟨some (M.hear y).2, C⟩ := by
      unfold WorldS.got
      rw [if_neg (by rw [hy.1]; decide), hy.2, if_neg (by omega), show (V.off 0).side (1 - n) = ⟨some M, C⟩ from v2]
    rw [hv]
    rw [show 1 - (1 - n) = n by omega] at s2
    exact ⟨s2.trans v1, s1, s3, s4⟩
  have hc : ∀ V : WorldS, V.side n = ⟨some N', B'⟩ → V.side (1 - n) = ⟨some M, C⟩ → ((V.off 0).got x).side n = ⟨some N', B'⟩ ∧ ((V.off 0).got x).side (1 - n) = ⟨some M, C⟩ ∧ ((V.off 0).got x).to = (if x.epoch > V.epoch ∨ V.to < 0 then n else V.to) ∧ ((V.off 0).got x).epoch = (if x.epoch > V.epoch ∨ V.to < 0 then x.epoch else V.epoch) := by
    intro V v1 v2
    unfold WorldS.got
    rw [if_pos hx.1, hx.2]
    by_cases hq : x.epoch > V.epoch ∨ V.to < 0
    · rw [if_pos hq, if_pos hq, if_pos (show x.epoch > (V.off 0).epoch ∨ (V.off 0).to < 0 from hq)]
      exact ⟨v1, v2, rfl, rfl⟩
    · rw [if_neg hq, if_neg hq, if_neg (show ¬ (x.epoch > (V.off 0).epoch ∨ (V.off 0).to < 0) from hq)]
      exact ⟨v1, v2, rfl, rfl⟩
  obtain ⟨c1, c2, c3, c4⟩ := hc _ a3 a4
  obtain ⟨g1, g2, g3, g4⟩ := hg _ c1 c2 d2
  refine ⟨d4, g1, g2, ?_, ?_⟩
  · rw [g3, c3, a5, a6]
  · rw [g4, c4, a5, a6]
end
end Go.Proofs.YtoaghhcjlfiflaaGreatDoor

namespace Go.Proofs.YtoaghhcjlfiflaaGreatDoor
open Go Ev
section
variable {f : Int} {i : Nat} {W : WorldS}
end
end Go.Proofs.YtoaghhcjlfiflaaGreatDoor

namespace Go.Proofs.YtoaghhcjlfiflaaGreatDoor
open Go Ev
section
variable {n f : Int} {m c : Nat} {W : WorldS}
def WorldS.anew (W : WorldS) : WorldS := ((((W.down 0).2.up 0).2.down 1).2.up 1).2
end
end Go.Proofs.YtoaghhcjlfiflaaGreatDoor

namespace Go.Proofs.YtoaghhcjlfiflaaGreatDoor
open Go Ev
def bornFacts : Bool :=
  let R := (WorldS.born []).ticks 0 10
  let D := R.2.deliver 0
  R.1 == 0 && R.2.to == -1 && R.2.epoch == 0 && R.2.fly.length == 1 && D.1 == 0 && D.2.to == 0 && D.2.epoch == 2 && D.2.events.length == 1
theorem bornFacts_true : bornFacts = true := by decide +kernel
theorem born_plain : ((WorldS.born []).ticks 0 10).1 = 0 ∧ ((WorldS.born []).ticks 0 10).2.to = -1 ∧ ((WorldS.born []).ticks 0 10).2.epoch = 0 ∧ ((WorldS.born []).ticks 0 10).2.fly.length = 1 ∧ (((WorldS.born []).ticks 0 10).2.deliver 0).1 = 0 ∧ (((WorldS.born []).ticks 0 10).2.deliver 0).2.to = 0 ∧ (((WorldS.born []).ticks 0 10).2.deliver 0).2.epoch = 2 ∧ (((WorldS.born []).ticks 0 10).2.deliver 0).2.events.length = 1 := by
  have h := bornFacts_true
  unfold bornFacts at h
  simpa [Bool.and_eq_true, and_assoc] using h
section
variable {w w' : World} {X : WorldA} {W : WorldS} {E : Nat → Addr} {q m : Nat}
theorem Ext.new_of {H H' : List Ent} {w w1 w' : World} (h : Ext No w w1) (hf : ∀ b, inF H b → w.heap.size ≤ b) (k : Turns w1 w' H H') : Ext No w w' := h.then k.ext fun b hb => .inr (hf b hb)
theorem born_ok' (hE : Errs w E q insErrs) (hq : q ≤ w.heap.size) : CallC Tryz.prog 9 #[] w fun v w' => v = .bool true ∧ Ext No w w' := by
  obtain ⟨b1, b2, b3, b4, b5, b6, b7, b8⟩ := born_plain
  have hnil : Slc w 5 encRule (fun _ => True) none 0 ([] : List RuleS) := ⟨rfl, by decide, fun k x hk => by simp at hk, fun _ _ => trivial⟩
  refine fn_intro tabOk Tryz.func9 (by kernel_rfl) rfl Tryz.ntmps9 (Nat.le_of_ble_eq_true rfl) ?_
  (conv => whnf)
  refine (wnew_ok hnil (by decide) hE hq (by decide)).mono ?_
  rintro v w1 ⟨X, rfl, hx, hst, hf⟩
  (conv => whnf)
  generalize WorldS.born [] = V at *
  refine loopR tabOk (fun σ w' r => ∃ (i : Nat) (X' : WorldA) (W' : WorldS), σ = [(3, .int .i64 i), (1, .pointer (some ⟨X.w, 0, none⟩))] ∧ r = 10 - i ∧ i ≤ 10 ∧ X'.w = X.w ∧ Stands E q (34 * i) w' X' W' ∧ Turns w1 w' (worldH X V) (worldH X' W') ∧ V.ticks 0 10 = W'.ticks 0 (10 - i))
    (σ' := [(3, .int .i64 ((0 : Nat) : Int)), (1, .pointer (some ⟨X.w, 0, none⟩))]) (n := 10) ⟨rfl, rfl, trivial⟩ ⟨0, X, V, rfl, rfl, Nat.zero_le _, rfl, hst, Turns.refl hst.has, rfl⟩ ?_
  rintro _ w2 r ⟨i, X', W', rfl, rfl, hi, hw, hst2, hT, hr⟩
  (conv => whnf)
  refine brD (fun h3 => ?_) (fun h3 => ?_)
  · obtain ⟨j, hj⟩ : ∃ j, 10 - i = j + 1 := ⟨10 - i - 1, by omega⟩
    rw [hj] at hr
    (conv => whnf)
    rw [← hw]
    refine (wtick_ok 0 hst2 (by omega)).mono ?_
    rintro v w3 ⟨rfl, X3, hw3, hT3⟩
    have hst3 := hst2.turns hT3 (hst2.ok.tick (by omega) 0)
    have he : (W'.tick 0).1 = 0 := by
      refine Classical.byContradiction fun h => ?_
      rw [hr, show W'.ticks 0 (j + 1) = if (W'.tick 0).1 ≠ 0 then W'.tick 0 else (W'.tick 0).2.ticks 0 j from rfl, if_pos h] at b1
      exact h b1
    have hr2 : V.ticks 0 10 = (W'.tick 0).2.ticks 0 j := by
      rw [hr, show W'.ticks 0 (j + 1) = if (W'.tick 0).1 ≠ 0 then W'.tick 0 else (W'.tick 0).2.ticks 0 j from rfl, if_neg (fun h => h he)]
    rw [he]
    (conv => whnf)
    refine RngC.mk (by omega) (by omega) ?_
    (conv => whnf)
    refine LoopE.mk ⟨_, [(3, .int .i64 ((i + 1 : Nat) : Int)), (1, .pointer (some ⟨X'.w, 0, none⟩))], ?_, ⟨rfl, rfl, trivial⟩, ⟨i + 1, X3, (W'.tick 0).2, rfl, rfl, by omega, hw3, hst3, hT.trans hT3, by rw [hr2]; congr 1; omega⟩⟩
    omega
  · obtain rfl : i = 10 := by omega
    rw [hr] at b1 b2 b3 b4 b5 b6 b7 b8
    change W'.to = _ at b2
    change W'.epoch = _ at b3
    change W'.fly.length = _ at b4
    change (W'.deliver 0).1 = _ at b5
    change (W'.deliver 0).2.to = _ at b6
    change (W'.deliver 0).2.epoch = _ at b7
    change (W'.deliver 0).2.events.length = _ at b8
    rw [← hw]
    (conv => whnf)
    refine (wswitch_ok hst2.has).mono ?_
    rintro v w3 ⟨rfl, hx3⟩
    rw [b2, b3]
    have hst3 := hst2.no hx3
    (conv => whnf)
    refine (wflying_ok hst3).mono ?_
    rintro v w4 ⟨a', c', vs', rfl, hx4, _⟩
    have hst4 := hst3.no hx4
    rw [b4]
    (conv => whnf)
    refine (wdeliver_ok 0 hst4).mono ?_
    rintro v w5 ⟨rfl, X5, hw5, hT5⟩
    rw [b5, ← hw5]
    have hst5 := hst4.turns hT5 (hst4.ok.deliver 0)
    (conv => whnf)
    refine (wswitch_ok hst5.has).mono ?_
    rintro v w6 ⟨rfl, hx6⟩
    rw [b6, b7]
    have hst6 := hst5.no hx6
    (conv => whnf)
    refine (wevents_ok hst6).mono ?_
    rintro v w7 ⟨a7, c7, rfl, hx7, _⟩
    rw [b8]
    repeat' ((conv => whnf); first | refine RetC.mk ?_ | refine NzC.mk (by decide) ?_ | refine RngC.mk (by omega) (by omega) ?_ | refine IdxC.mk (by omega) (by omega) ?_ | refine brD (fun _ => ?_) (fun _ => ?_) | refine brND (fun _ => ?_) (fun _ => ?_) | refine brN (fun _ => ?_) (fun _ => ?_) | refine brI (fun _ => ?_) (fun _ => ?_))
    refine ⟨rfl, ?_⟩
    have hT7 := (((hT.trans (Turns.of_no hst2.has (hx3.trans hx4))).trans hT5).trans (Turns.of_no hst5.has (hx6.trans hx7)))
    exact Ext.new_of hx hf hT7
end
end Go.Proofs.YtoaghhcjlfiflaaGreatDoor

namespace Go.Proofs.YtoaghhcjlfiflaaGreatDoor
open Go Ev
section
variable {w : World} {b : Nat} {r : RoleS}
end
end Go.Proofs.YtoaghhcjlfiflaaGreatDoor

namespace Go.Proofs.YtoaghhcjlfiflaaGreatDoor
open Go Ev

end Go.Proofs.YtoaghhcjlfiflaaGreatDoor

namespace Go.Proofs.YtoaghhcjlfiflaaGreatDoor
open Go Ev

end Go.Proofs.YtoaghhcjlfiflaaGreatDoor

namespace Go.Proofs.YtoaghhcjlfiflaaGreatDoor
open Go Ev

structure RBy where
  data : List UInt8
  off : Bool
  left : Int
  bnd : Bool
section
variable {w : World} {b : Nat} {B : BytS} {R : RBy}
end
end Go.Proofs.YtoaghhcjlfiflaaGreatDoor

namespace Go.Proofs.YtoaghhcjlfiflaaGreatDoor
open Go Ev

def RBy.cutN (R : RBy) (m : Nat) : Nat := if R.off = true then 0 else if R.bnd = true ∧ R.left < m then R.left.toNat else m
def RBy.offN (R : RBy) (m : Nat) : Bool := if R.off = true then true else if R.bnd = true ∧ R.left < m then true else false
def RBy.write (R : RBy) (p : Nat) (s : List UInt8) : Bool × RBy := (!R.offN s.length, ⟨laid R.data p (s.take (R.cutN s.length)), R.offN s.length, R.left - R.cutN s.length, R.bnd⟩)
section
variable {w : World} {b : Nat} {R : RBy}
end
end Go.Proofs.YtoaghhcjlfiflaaGreatDoor

namespace Go.Proofs.YtoaghhcjlfiflaaGreatDoor
open Go Ev

section
variable {w : World} {b c : Nat} {R : RBy}
end
end Go.Proofs.YtoaghhcjlfiflaaGreatDoor

namespace Go.Proofs.YtoaghhcjlfiflaaGreatDoor
open Go Ev

section
variable {w : World} {b c : Nat} {B : BytS} {R : RBy}
end
end Go.Proofs.YtoaghhcjlfiflaaGreatDoor

namespace Go.Proofs.YtoaghhcjlfiflaaGreatDoor
open Go Ev

structure RNodeA where
  n : Nat
  r : Nat
  c : Nat
  t : Nat
  tg : Nat
  tc : Nat
  x : Nat
  xg : Nat
  xc : Nat
  m : Nat
  mg : Nat
  mc : Nat
  b : Nat
  ra : Option Addr
  rc : Nat
section
variable {w : World} {A : RNodeA} {N : NodeS} {R : RBy}
end
end Go.Proofs.YtoaghhcjlfiflaaGreatDoor

namespace Go.Proofs.YtoaghhcjlfiflaaGreatDoor
open Go Ev

section
variable {w : World} {b : Nat} {r : RoleS}

end

end Go.Proofs.YtoaghhcjlfiflaaGreatDoor

namespace Go.Proofs.YtoaghhcjlfiflaaGreatDoor
open Go Ev
section
variable {w : World} {A : RNodeA} {N : NodeS} {R : RBy} {B : BytS}
end
end Go.Proofs.YtoaghhcjlfiflaaGreatDoor

namespace Go.Proofs.YtoaghhcjlfiflaaGreatDoor
open Go Ev
section
variable {w : World} {A : RNodeA} {N : NodeS} {R : RBy} {B : BytS}
end
end Go.Proofs.YtoaghhcjlfiflaaGreatDoor

namespace Go.Proofs.YtoaghhcjlfiflaaGreatDoor
open Go Ev
section
variable {w : World}
end
end Go.Proofs.YtoaghhcjlfiflaaGreatDoor

namespace Go.Proofs.YtoaghhcjlfiflaaGreatDoor
open Go Ev
theorem Ev.Slc.imp {α : Type} {w : World} {sz n : Nat} {enc : α → List Value} {G G' : α → Prop} {a : Option Addr} {xs : List α} (h : Slc w sz enc G a n xs) (hg : ∀ x, G x → G' x) : Slc w sz enc G' a n xs := ⟨h.len, h.max, h.cells, fun x hx => hg x (h.good x hx)⟩
theorem Ev.St.madeAll {w0 w w' : World} {S : Nat → Prop} {H L : List Ent} (h : St w0 S w H) (hx : Ext No w w') (hL : Has w' L) (hf : ∀ b, inF L b → w.heap.size ≤ b) : St w0 S w' (H ++ L) := by
  have h1 := h.no hx
  refine ⟨h1.ext, ?_, ?_, ?_, ?_⟩
  · intro e he
    rcases List.mem_append.1 he with he | he
    · exact h1.each e he
    · exact hL.each e he
  · intro e he
    rcases List.mem_append.1 he with he | he
    · exact h1.loc e he
    · exact hL.loc e he
  · intro e he b hb
    rcases List.mem_append.1 he with he | he
    · exact h1.may e he b hb
    · exact ⟨.inr (Nat.le_trans h.ext.size (hf b ⟨e, he, hb⟩)), hL.lt e he b hb⟩
  · refine List.pairwise_append.2 ⟨h1.apart, hL.apart, fun e he f hf' b hb hb' => ?_⟩
    have h2 := (h.may e he b hb).2
    have h3 := hf b ⟨f, hf', hb'⟩
    omega
theorem Ev.St.frontOut {w0 w : World} {S : Nat → Prop} {e : Ent} {H : List Ent} (h : St w0 S w (e :: H)) {b : Nat} (hb : b ∈ e.foot) : ¬ inF H b := by
  rintro ⟨f, hf, hbf⟩
  exact (List.pairwise_cons.1 h.apart).1 f hf b hb hbf
theorem Ev.St.rowOut {w0 w : World} {S : Nat → Prop} {e : Ent} {P L R : List Ent} (h : St w0 S w ((e :: P) ++ (L ++ R))) {b : Nat} (hb : b ∈ e.foot) : ¬ inF L b := fun hl => h.frontOut hb (inF_app.2 (.inr (inF_app.2 (.inl hl))))
theorem Ev.St.new_high {w0 w : World} {H : List Ent} (h : St w0 No w H) {b : Nat} (hb : inF H b) : w0.heap.size ≤ b := by
  obtain ⟨e, he, hb⟩ := hb
  exact (h.may e he b hb).1.elim (fun h => h.elim) id
section
variable {w w' : World}
theorem St.stands {E : Nat → Addr} {m : Nat} {w0 : World} {X : WorldA} {V : WorldS} {P R : List Ent} (hS : St w0 No w (P ++ (worldH X V ++ R))) (hE : Errs w0 E w0.heap.size insErrs) (ok : WOk m V) : Stands E w0.heap.size m w X V :=
  ⟨hS.has.right.left, ok, hE.ext hS.ext fun _ h => h.elim, fun _ hb => hS.new_high (inF_app.2 (.inr (inF_app.2 (.inl hb))))⟩
theorem dec_ruleW {d : Nat} (hd : 10 ≤ d) : Dec Tryz.prog w d 92 encRule (fun _ => True) := by
  intro cs h
  have h1 : flatK Tryz.prog 10 92 = some [.bool, .bool, .int, .int, .int] := by kernel_rfl
  have h2 : Tryz.prog.cellsOf 92 = 5 := by kernel_rfl
  obtain ⟨ps, rfl, hk, hok⟩ := shp_flat 10 d _ _ cs h1 hd h2 h
  obtain ⟨p1, r, rfl, g1, hk⟩ := kinds_cons hk
  obtain ⟨p2, r, rfl, g2, hk⟩ := kinds_cons hk
  obtain ⟨p3, r, rfl, g3, hk⟩ := kinds_cons hk
  obtain ⟨p4, r, rfl, g4, hk⟩ := kinds_cons hk
  obtain ⟨p5, r, rfl, g5, hk⟩ := kinds_cons hk
  obtain rfl := kinds_nil hk
  obtain ⟨n1, rfl⟩ := k_bool g1
  obtain ⟨n2, rfl⟩ := k_bool g2
  obtain ⟨n3, rfl⟩ := k_int g3
  obtain ⟨n4, rfl⟩ := k_int g4
  obtain ⟨n5, rfl⟩ := k_int g5
  exact ⟨⟨n1, n2, n3, n4, n5⟩, rfl, trivial⟩
end
end Go.Proofs.YtoaghhcjlfiflaaGreatDoor

namespace Go.Proofs.YtoaghhcjlfiflaaGreatDoor
open Go Ev
structure StepW where
  kind : ByteArray
  s : Int
  n : Int
  p : PktS
  ra : Option Addr
  rn : Nat
  rc : Nat
  rules : List RuleS
def encSW (a : StepW) : List Value := .string a.kind :: .int .i64 a.s :: .int .i64 a.n :: (encPkt a.p ++ [.slice a.ra a.rn a.rc])
structure StepW.Ok (W : World) (a : StepW) : Prop where
  rules : Slc W 5 encRule (fun _ => True) a.ra a.rn a.rules
  s : I64 a.s
  n : I64 a.n
section
variable {W w : World}
theorem stepsFit_ok {a : Option Addr} {n c : Nat} {l : List StepW} (most : Int) (hx : Slc w 10 encSW (StepW.Ok W) a n l) :
    CallC Tryz.prog 10 #[.slice a n c, .int .i64 most] w fun v w' => ∃ b, v = .bool b ∧ (b = true → (∀ x ∈ l, x.rn ≤ 30) ∧ (n : Int) ≤ most) ∧ Ext No w w' := by
  have hl := hx.len
  have hmax := hx.max
  refine fn_intro tabOk Tryz.func10 (by kernel_rfl) rfl Tryz.ntmps10 (Nat.le_of_ble_eq_true rfl) ?_
  have hS := St.start w No
  (conv => whnf)
  refine loopR tabOk (fun σ w' q => ∃ k : Nat, σ = [(5, .int .i64 k), (1, .int .i64 most), (0, .slice a n c)] ∧ q = n - k ∧ k ≤ n ∧ (∀ x ∈ l.take k, x.rn ≤ 30) ∧ St w No w' [])
    (σ' := [(5, .int .i64 ((0 : Nat) : Int)), (1, .int .i64 most), (0, .slice a n c)]) (n := n) ⟨rfl, rfl, rfl, trivial⟩ ⟨0, rfl, rfl, Nat.zero_le _, fun x hx => by simp at hx, hS⟩ ?_
  clear hS
  rintro _ w1 q ⟨k, rfl, rfl, hk, hfit, hS⟩
  (conv => whnf)
  refine brD (fun h3 => ?_) (fun h3 => ?_)
  · obtain ⟨b0, o0, x, hxk, _, rfl, hb0, hc⟩ := hx.at (k := k) (by omega)
    have hst : l.take (k + 1) = l.take k ++ [x] := by rw [List.take_add_one, hxk]; rfl
    (conv => whnf)
    refine IdxC.mk (by omega) (by omega) ?_
    (conv => whnf)
    refine hS.ldr (hc.one 9 (v := .slice x.ra x.rn x.rc) rfl) id ?_
    (conv => whnf)
    refine brD (fun h4 => ?_) (fun h4 => ?_)
    · repeat' ((conv => whnf); first | refine RetC.mk ?_ | refine NzC.mk (by decide) ?_ | refine RngC.mk (by omega) (by omega) ?_ | refine IdxC.mk (by omega) (by omega) ?_ | refine brD (fun _ => ?_) (fun _ => ?_) | refine brND (fun _ => ?_) (fun _ => ?_) | refine brN (fun _ => ?_) (fun _ => ?_) | refine brI (fun _ => ?_) (fun _ => ?_))
      exact ⟨false, rfl, (fun h => by cases h), hS.ext⟩
    have hfit2 : ∀ y ∈ l.take (k + 1), y.rn ≤ 30 := by
      rw [hst]
      intro y hy
      rcases List.mem_append.1 hy with hy | hy
      · exact hfit y hy
      · obtain rfl := List.mem_singleton.1 hy
        omega
    (conv => whnf)
    refine RngC.mk (by omega) (by omega) ?_
    (conv => whnf)
    refine LoopE.mk ⟨_, [(5, .int .i64 ((k + 1 : Nat) : Int)), (1, _), (0, _)], ?_, ⟨rfl, rfl, rfl, trivial⟩, ⟨k + 1, rfl, rfl, by omega, hfit2, hS⟩⟩
    omega
  · obtain rfl : k = n := by omega
    rw [List.take_of_length_le (by omega)] at hfit
    repeat' ((conv => whnf); first | refine RetC.mk ?_ | refine NzC.mk (by decide) ?_ | refine RngC.mk (by omega) (by omega) ?_ | refine IdxC.mk (by omega) (by omega) ?_ | refine brD (fun _ => ?_) (fun _ => ?_) | refine brND (fun _ => ?_) (fun _ => ?_) | refine brN (fun _ => ?_) (fun _ => ?_) | refine brI (fun _ => ?_) (fun _ => ?_))
    exact ⟨_, rfl, fun h => ⟨hfit, of_decide_eq_true h⟩, hS.ext⟩
theorem stp_str {e d : Nat} {t : TypeId} {v : Value} (he : e = d + 1) (hu : Tryz.prog.underlying t = some .string) (h : Shp Tryz.prog w e t [v]) : ∃ s, v = .string s := by
  subst he
  unfold Shp at h
  rw [hu] at h
  obtain ⟨s, h, _⟩ := h
  simp only [List.cons.injEq, and_true] at h
  exact ⟨s, h⟩
theorem len10 {α : Type} {l : List α} (h : l.length = 10) : ∃ a b c d e f g i j k, l = [a, b, c, d, e, f, g, i, j, k] := by
  match l, h with
  | [a, b, c, d, e, f, g, i, j, k], _ => exact ⟨a, b, c, d, e, f, g, i, j, k, rfl⟩
theorem dec_pktW {d : Nat} (hd : 10 ≤ d) : Dec Tryz.prog w d 36 encPkt (fun _ => True) := by
  intro cs h
  have h1 : flatK Tryz.prog 10 36 = some [.int, .int, .int, .int, .int, .int] := by kernel_rfl
  have h2 : Tryz.prog.cellsOf 36 = 6 := by kernel_rfl
  obtain ⟨ps, rfl, hk, hok⟩ := shp_flat 10 d _ _ cs h1 hd h2 h
  obtain ⟨p1, r, rfl, g1, hk⟩ := kinds_cons hk
  obtain ⟨p2, r, rfl, g2, hk⟩ := kinds_cons hk
  obtain ⟨p3, r, rfl, g3, hk⟩ := kinds_cons hk
  obtain ⟨p4, r, rfl, g4, hk⟩ := kinds_cons hk
  obtain ⟨p5, r, rfl, g5, hk⟩ := kinds_cons hk
  obtain ⟨p6, r, rfl, g6, hk⟩ := kinds_cons hk
  obtain rfl := kinds_nil hk
  obtain ⟨n1, rfl⟩ := k_int g1
  obtain ⟨n2, rfl⟩ := k_int g2
  obtain ⟨n3, rfl⟩ := k_int g3
  obtain ⟨n4, rfl⟩ := k_int g4
  obtain ⟨n5, rfl⟩ := k_int g5
  obtain ⟨n6, rfl⟩ := k_int g6
  exact ⟨⟨n1, n2, n3, n4, n5, n6⟩, rfl, trivial⟩
theorem dec_step {W : World} {c d e : Nat} (hc : 10 ≤ c) (hd : d = c + 1) (he : e = d + 1) : Dec Tryz.prog W e 38 encSW (StepW.Ok W) := by
  intro cs h
  obtain ⟨hl, hff⟩ := shp_struct he Tryz.underlying38 h
  have hl2 : cs.length = 10 := hl.trans (by kernel_rfl)
  clear hl h
  have c0 : Tryz.prog.cellsOf 9 = 1 := by kernel_rfl
  have c1 : Tryz.prog.cellsOf 3 = 1 := by kernel_rfl
  have c2 : Tryz.prog.cellsOf 36 = 6 := by kernel_rfl
  have c4 : Tryz.prog.cellsOf 22 = 1 := by kernel_rfl
  have h0 : Shp Tryz.prog W d 9 ((cs.drop 0).take (Tryz.prog.cellsOf 9)) := hff 0 _ rfl
  have h1 : Shp Tryz.prog W d 3 ((cs.drop 1).take (Tryz.prog.cellsOf 3)) := hff 1 _ rfl
  have h2 : Shp Tryz.prog W d 3 ((cs.drop 2).take (Tryz.prog.cellsOf 3)) := hff 2 _ rfl
  have h3 : Shp Tryz.prog W d 36 ((cs.drop 3).take (Tryz.prog.cellsOf 36)) := hff 3 _ rfl
  have h4 : Shp Tryz.prog W d 22 ((cs.drop 9).take (Tryz.prog.cellsOf 22)) := hff 4 _ rfl
  clear hff
  rw [c0] at h0
  rw [c1] at h1 h2
  rw [c2] at h3
  rw [c4] at h4
  obtain ⟨x0, x1, x2, x3, x4, x5, x6, x7, x8, x9, rfl⟩ := len10 hl2
  simp only [List.drop_zero, List.drop_succ_cons, List.take_succ_cons, List.take_zero] at h0 h1 h2 h3 h4
  obtain ⟨kind, rfl⟩ := stp_str hd Tryz.underlying9 h0
  obtain ⟨s, hs, hsI⟩ := shp_int hd Tryz.underlying3 h1
  obtain ⟨n, hn, hnI⟩ := shp_int hd Tryz.underlying3 h2
  obtain ⟨p, hp, _⟩ := dec_pktW (by omega) _ h3
  obtain ⟨ra, rn, rc, rfl⟩ := shp_slice hd Tryz.underlying22 h4
  obtain ⟨rl, hrl, _⟩ := shp_slc (sz := 5) hd Tryz.underlying22 (by kernel_rfl) (by decide) (dec_ruleW hc) h4
  simp only [List.cons.injEq, and_true] at hs hn
  subst hs hn
  refine ⟨⟨kind, s, n, p, ra, rn, rc, rl⟩, ?_, hrl, hsI, hnI⟩
  unfold encSW
  dsimp only
  rw [← hp]
  rfl
end
end Go.Proofs.YtoaghhcjlfiflaaGreatDoor

namespace Go.Proofs.YtoaghhcjlfiflaaGreatDoor
open Go Ev
def Acted (w0 w' : World) (X : WorldA) (W : WorldS) (Z : List Ent) : Prop := ∃ (X' : WorldA) (V : WorldS), X'.w = X.w ∧ Moved W V ∧ St w0 No w' (worldH X' V ++ Z)
section
variable {w w' w0 w1 : World} {X : WorldA} {W : WorldS} {m q : Nat} {E : Nat → Addr} {Z : List Ent}
set_option maxRecDepth 10000 in
theorem wact_ok (a : StepW) (hS : St w0 No w (worldH X W ++ Z)) (hO : WOk m W) (hm : m + 34 ≤ 40000000) (ha : a.Ok w0) (hf : a.rn ≤ 30) (hE : Errs w0 E w0.heap.size insErrs) :
    CallC Tryz.prog 13 #[.pointer (some ⟨X.w, 0, none⟩), .agg (encSW a).toArray] w fun _ w' => Acted w0 w' X W Z := by
  have hn := ha.n.2
  refine fn_intro tabOk Tryz.func13 (by kernel_rfl) rfl Tryz.ntmps13 (Nat.le_of_ble_eq_true rfl) ?_
  (conv => whnf)
  refine hS.new (fun bx w' hbx hS => ?_)
  replace hS : St w0 No w' ([blk bx 38 (encSW a)] ++ (worldH X W ++ Z)) := hS.perm List.perm_append_comm
  (conv => whnf)
  refine hS.ld 0 rfl (v := .string a.kind) rfl ?_
  (conv => whnf)
  refine eqStr ?_
  (conv => whnf)
  refine brD (fun _ => ?_) (fun _ => ?_)
  · (conv => whnf)
    refine hS.ld 0 rfl rfl ?_
    (conv => whnf)
    refine (wtick_ok (hm := hm) a.s (St.stands hS hE hO)).mono ?_
    rintro v w2 ⟨rfl, X2, hX2, ht⟩
    replace hS := St.callAt hS ht
    repeat' ((conv => whnf); first | refine RetC.mk ?_ | refine NzC.mk (by decide) ?_ | refine RngC.mk (by omega) (by omega) ?_ | refine IdxC.mk (by omega) (by omega) ?_ | refine brD (fun _ => ?_) (fun _ => ?_) | refine brND (fun _ => ?_) (fun _ => ?_) | refine brN (fun _ => ?_) (fun _ => ?_) | refine brI (fun _ => ?_) (fun _ => ?_))
    exact ⟨X2, _, by first | rfl | exact hX2, .tick W a.s, hS.weaken (List.sublist_append_right _ _)⟩
  (conv => whnf)
  refine eqStr ?_
  (conv => whnf)
  refine brD (fun _ => ?_) (fun _ => ?_)
  · (conv => whnf)
    refine hS.ld 0 rfl rfl ?_
    (conv => whnf)
    refine (wdown_ok a.s (St.stands hS hE hO)).mono ?_
    rintro v w2 ⟨rfl, ht⟩
    replace hS := St.callAt hS ht
    repeat' ((conv => whnf); first | refine RetC.mk ?_ | refine NzC.mk (by decide) ?_ | refine RngC.mk (by omega) (by omega) ?_ | refine IdxC.mk (by omega) (by omega) ?_ | refine brD (fun _ => ?_) (fun _ => ?_) | refine brND (fun _ => ?_) (fun _ => ?_) | refine brN (fun _ => ?_) (fun _ => ?_) | refine brI (fun _ => ?_) (fun _ => ?_))
    exact ⟨X, _, by first | rfl | exact hX2, .down W a.s, hS.weaken (List.sublist_append_right _ _)⟩
  (conv => whnf)
  refine eqStr ?_
  (conv => whnf)
  refine brD (fun _ => ?_) (fun _ => ?_)
  · (conv => whnf)
    refine hS.ld 0 rfl rfl ?_
    (conv => whnf)
    refine (wcome_ok a.s (St.stands hS hE hO)).mono ?_
    rintro v w2 ⟨rfl, X2, hX2, ht⟩
    replace hS := St.callAt hS ht
    repeat' ((conv => whnf); first | refine RetC.mk ?_ | refine NzC.mk (by decide) ?_ | refine RngC.mk (by omega) (by omega) ?_ | refine IdxC.mk (by omega) (by omega) ?_ | refine brD (fun _ => ?_) (fun _ => ?_) | refine brND (fun _ => ?_) (fun _ => ?_) | refine brN (fun _ => ?_) (fun _ => ?_) | refine brI (fun _ => ?_) (fun _ => ?_))
    exact ⟨X2, _, by first | rfl | exact hX2, .up W a.s, hS.weaken (List.sublist_append_right _ _)⟩
  (conv => whnf)
  refine eqStr ?_
  (conv => whnf)
  refine brD (fun _ => ?_) (fun _ => ?_)
  · (conv => whnf)
    refine hS.ld 0 rfl rfl ?_
    (conv => whnf)
    refine hS.ld 0 rfl rfl ?_
    (conv => whnf)
    refine (wcut_ok a.s a.n (St.stands hS hE hO)).mono ?_
    rintro v w2 ⟨rfl, ht⟩
    replace hS := St.callAt hS ht
    repeat' ((conv => whnf); first | refine RetC.mk ?_ | refine NzC.mk (by decide) ?_ | refine RngC.mk (by omega) (by omega) ?_ | refine IdxC.mk (by omega) (by omega) ?_ | refine brD (fun _ => ?_) (fun _ => ?_) | refine brND (fun _ => ?_) (fun _ => ?_) | refine brN (fun _ => ?_) (fun _ => ?_) | refine brI (fun _ => ?_) (fun _ => ?_))
    exact ⟨X, _, by first | rfl | exact hX2, .cut W a.s a.n hn, hS.weaken (List.sublist_append_right _ _)⟩
  (conv => whnf)
  refine eqStr ?_
  (conv => whnf)
  refine brD (fun _ => ?_) (fun _ => ?_)
  · (conv => whnf)
    refine hS.laX 0 rfl rfl ?_
    (conv => whnf)
    refine (winside_ok (hm := by omega) a.p (St.stands hS hE hO)).mono ?_
    rintro v w2 ⟨rfl, ht⟩
    replace hS := St.callAt hS ht
    repeat' ((conv => whnf); first | refine RetC.mk ?_ | refine NzC.mk (by decide) ?_ | refine RngC.mk (by omega) (by omega) ?_ | refine IdxC.mk (by omega) (by omega) ?_ | refine brD (fun _ => ?_) (fun _ => ?_) | refine brND (fun _ => ?_) (fun _ => ?_) | refine brN (fun _ => ?_) (fun _ => ?_) | refine brI (fun _ => ?_) (fun _ => ?_))
    exact ⟨X, _, by first | rfl | exact hX2, .inside W a.p, hS.weaken (List.sublist_append_right _ _)⟩
  (conv => whnf)
  refine eqStr ?_
  (conv => whnf)
  refine brD (fun _ => ?_) (fun _ => ?_)
  · (conv => whnf)
    refine hS.laX 0 rfl rfl ?_
    (conv => whnf)
    refine (woutside_ok (hm := by omega) a.p (St.stands hS hE hO)).mono ?_
    rintro v w2 ⟨rfl, ht⟩
    replace hS := St.callAt hS ht
    repeat' ((conv => whnf); first | refine RetC.mk ?_ | refine NzC.mk (by decide) ?_ | refine RngC.mk (by omega) (by omega) ?_ | refine IdxC.mk (by omega) (by omega) ?_ | refine brD (fun _ => ?_) (fun _ => ?_) | refine brND (fun _ => ?_) (fun _ => ?_) | refine brN (fun _ => ?_) (fun _ => ?_) | refine brI (fun _ => ?_) (fun _ => ?_))
    exact ⟨X, _, by first | rfl | exact hX2, .outside W a.p, hS.weaken (List.sublist_append_right _ _)⟩
  (conv => whnf)
  refine eqStr ?_
  (conv => whnf)
  refine brD (fun _ => ?_) (fun _ => ?_)
  · (conv => whnf)
    refine hS.ld 0 rfl rfl ?_
    (conv => whnf)
    refine (wdrop_ok a.n (St.stands hS hE hO)).mono ?_
    rintro v w2 ⟨rfl, X2, hX2, ht⟩
    replace hS := St.callAt hS ht
    repeat' ((conv => whnf); first | refine RetC.mk ?_ | refine NzC.mk (by decide) ?_ | refine RngC.mk (by omega) (by omega) ?_ | refine IdxC.mk (by omega) (by omega) ?_ | refine brD (fun _ => ?_) (fun _ => ?_) | refine brND (fun _ => ?_) (fun _ => ?_) | refine brN (fun _ => ?_) (fun _ => ?_) | refine brI (fun _ => ?_) (fun _ => ?_))
    exact ⟨X2, _, by first | rfl | exact hX2, .drop W a.n, hS.weaken (List.sublist_append_right _ _)⟩
  (conv => whnf)
  refine eqStr ?_
  (conv => whnf)
  refine brD (fun _ => ?_) (fun _ => ?_)
  · (conv => whnf)
    refine hS.ld 0 rfl rfl ?_
    (conv => whnf)
    refine (wtwice_ok a.n (St.stands hS hE hO)).mono ?_
    rintro v w2 ⟨rfl, X2, hX2, ht⟩
    replace hS := St.callAt hS ht
    repeat' ((conv => whnf); first | refine RetC.mk ?_ | refine NzC.mk (by decide) ?_ | refine RngC.mk (by omega) (by omega) ?_ | refine IdxC.mk (by omega) (by omega) ?_ | refine brD (fun _ => ?_) (fun _ => ?_) | refine brND (fun _ => ?_) (fun _ => ?_) | refine brN (fun _ => ?_) (fun _ => ?_) | refine brI (fun _ => ?_) (fun _ => ?_))
    exact ⟨X2, _, by first | rfl | exact hX2, .twice W a.n, hS.weaken (List.sublist_append_right _ _)⟩
  (conv => whnf)
  refine eqStr ?_
  (conv => whnf)
  refine brD (fun _ => ?_) (fun _ => ?_)
  · (conv => whnf)
    refine hS.ld 0 rfl (v := .slice a.ra a.rn a.rc) rfl ?_
    (conv => whnf)
    refine (ownRules_ok (ha.rules.no hS.ext) (by omega)).mono ?_
    rintro v w3 ⟨a', c', rfl, hx, ho, hfr⟩
    replace hS := hS.made hx ownL_local ho (fun g hg => hfr g (by simpa [ownL, own] using hg))
    replace hS := hS.perm List.perm_append_comm
    clear hx ho hfr
    replace hS : St w0 No w3 ([ownL 92 5 encRule (.slice a' a.rn c') a.rules, blk bx 38 (encSW a)] ++ (worldH X W ++ Z)) := hS
    have hslc := ownL_slc (G := fun _ => True) codRule (hS.get 0 rfl) fun _ _ => trivial
    (conv => whnf)
    refine (wrules_ok hslc (by omega) (fun _ b0 o0 h0 hb => hS.rowOut (foot_own (by rw [h0]; rfl)) hb) (St.stands hS hE hO)).mono ?_
    rintro v w4 ⟨hF, X2, hX2, ht⟩
    replace hS := St.callAt hS ht
    clear hF ht hslc
    by_cases h0 : (faultL a.rules).1 = 0
    · rw [if_pos h0] at hS
      repeat' ((conv => whnf); first | refine RetC.mk ?_ | refine NzC.mk (by decide) ?_ | refine RngC.mk (by omega) (by omega) ?_ | refine IdxC.mk (by omega) (by omega) ?_ | refine brD (fun _ => ?_) (fun _ => ?_) | refine brND (fun _ => ?_) (fun _ => ?_) | refine brN (fun _ => ?_) (fun _ => ?_) | refine brI (fun _ => ?_) (fun _ => ?_))
      exact ⟨X2, _, hX2, .rule W a.rules (fault_good.1 h0), hS.weaken (List.sublist_append_right _ _)⟩
    · rw [if_neg h0] at hS
      repeat' ((conv => whnf); first | refine RetC.mk ?_ | refine NzC.mk (by decide) ?_ | refine RngC.mk (by omega) (by omega) ?_ | refine IdxC.mk (by omega) (by omega) ?_ | refine brD (fun _ => ?_) (fun _ => ?_) | refine brND (fun _ => ?_) (fun _ => ?_) | refine brN (fun _ => ?_) (fun _ => ?_) | refine brI (fun _ => ?_) (fun _ => ?_))
      exact ⟨X2, _, hX2, .same W, hS.weaken (List.sublist_append_right _ _)⟩
  (conv => whnf)
  refine hS.ld 0 rfl rfl ?_
  (conv => whnf)
  refine (wdeliver_ok a.n (St.stands hS hE hO)).mono ?_
  rintro v w2 ⟨rfl, X2, hX2, ht⟩
  replace hS := St.callAt hS ht
  repeat' ((conv => whnf); first | refine RetC.mk ?_ | refine NzC.mk (by decide) ?_ | refine RngC.mk (by omega) (by omega) ?_ | refine IdxC.mk (by omega) (by omega) ?_ | refine brD (fun _ => ?_) (fun _ => ?_) | refine brND (fun _ => ?_) (fun _ => ?_) | refine brN (fun _ => ?_) (fun _ => ?_) | refine brI (fun _ => ?_) (fun _ => ?_))
  exact ⟨X2, _, by first | rfl | exact hX2, .deliver W a.n, hS.weaken (List.sublist_append_right _ _)⟩
end
end Go.Proofs.YtoaghhcjlfiflaaGreatDoor

namespace Go.Proofs.YtoaghhcjlfiflaaGreatDoor
open Go Ev
structure Good (m c v : Nat) (W : WorldS) : Prop where
  ok : WOk m W
  wg : WG W
  low : LowW c W
  ev : W.events.length ≤ v
theorem Good.moved {m c v : Nat} {W V : WorldS} (h : Good m c v W) (k : Moved W V) (hm : m ≤ 40000000) (hv : v < 1000) : Good (m + 34) (c + 1) (v + 1) V := by
  have he := h.ev
  obtain ⟨g1, g2⟩ := k.wg h.ok h.wg hm (by omega)
  exact ⟨k.ok h.ok hm, g1, k.low h.ok h.wg h.low, by omega⟩
theorem Good.le {m c v m' c' v' : Nat} {W : WorldS} (h : Good m c v W) (h1 : m ≤ m') (h2 : c ≤ c') (h3 : v ≤ v') : Good m' c' v' W := ⟨h.ok.mono h1, h.wg, h.low.le h2, by have := h.ev; omega⟩
section
variable {w w' : World} {X : WorldA} {W : WorldS}
end
end Go.Proofs.YtoaghhcjlfiflaaGreatDoor

namespace Go.Proofs.YtoaghhcjlfiflaaGreatDoor
open Go Ev

section
variable {n : Nat} {T : MirS} {K : Nat → Prop} {M : List CellS}
def Cov (i cur : Nat) (K : Nat → Prop) : Prop := 4 ≤ i → ∃ c4, c4 < 32 ∧ cur = (c4 + 8 * (i - 4)) % 32 ∧ ∀ m, m < 8 * (i - 4) → K ((c4 + m) % 32)
theorem Cov.step {i : Nat} {X : TelS} {l : List CellS} (hc : X.cursor < 32) (hlag : lag l X.told ≤ 32 - 8 * i) (h : Cov i X.cursor K) : Cov (i + 1) (X.next l).cursor (fun k => K k ∨ k ∈ X.picks l) := by
  intro h4
  by_cases hi : 4 ≤ i
  · obtain ⟨c4, h1, h2, h3⟩ := h hi
    obtain ⟨e1, e2⟩ := calm hc (show lag l X.told = 0 by omega)
    refine ⟨c4, h1, by rw [e1, h2]; omega, fun m hm => ?_⟩
    by_cases hm2 : m < 8 * (i - 4)
    · exact .inl (h3 m hm2)
    · right
      rw [e2, List.mem_map]
      refine ⟨m - 8 * (i - 4), List.mem_range.2 (by omega), ?_⟩
      rw [h2]
      omega
  · obtain rfl : i = 3 := by omega
    exact ⟨(X.next l).cursor, (picks_law l hc).cur, by have := (picks_law l hc).cur; omega, fun m hm => absurd hm (by omega)⟩
end
end Go.Proofs.YtoaghhcjlfiflaaGreatDoor
