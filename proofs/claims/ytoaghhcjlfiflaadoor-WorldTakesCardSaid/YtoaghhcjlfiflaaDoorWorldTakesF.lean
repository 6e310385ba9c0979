/-
  Texts of this claim, joined: WorldD, WorldE, NoteC, LoopB, Wakes, WorldF, WorldG, Play, PlayB, PlayC, PlayD, OneS, TellA, MirS, TakeT, TakeW, BornW, RefHear, RefNum, RefSum, RefByt, RefBytW, RefOpen, RefCell, RefNode, RefRole, RefNodeT, RefNodeN, NodeL, LawW.
-/
import Derived.Test.YtoaghhcjlfiflaaDoorWorldTakesE
import Derived.Lib.BufferWrite

namespace Go.Proofs.YtoaghhcjlfiflaaDoor
open Go Ev
section
variable {w w' : World} {X : WorldA} {W : WorldS} {E : Nat → Addr} {q m : Nat}
theorem ndel2_ok {i : Nat} {g o : Nat} (hfa : X.fa = some ⟨g, o, none⟩) (hl : X.vs.length = W.fly.length) (hi : i < W.fly.length) (hm : W.fly.length ≤ 200) {w2 : World} (ho : (ownL 77 5 encNV (.slice X.fa W.fly.length X.fc) X.vs).holds w2) :
    CallC Tryd.prog 26 #[.slice (some ⟨g, o, none⟩) W.fly.length X.fc, .int .i64 (i : Int), .int .i64 ((i : Int) + 1)] w2 fun v w' =>
      v = .slice (some ⟨g, o, none⟩) (W.fly.eraseIdx i).length X.fc ∧ Ext (fun b => (Value.slice X.fa W.fly.length X.fc).ownBlock = some b) w2 w' ∧ (ownL 77 5 encNV (.slice X.fa (W.fly.eraseIdx i).length X.fc) (X.vs.eraseIdx i)).holds w' := by
  rw [show (W.fly.eraseIdx i).length = X.vs.length - 1 by rw [List.length_eraseIdx, if_pos hi, hl], ← hfa]
  rw [← hl] at ho ⊢
  exact ndel_ok ho (by omega) (by omega)
def gotH (X : WorldA) (W : WorldS) (i : Nat) (Y Z : SideA) (s t : SideS) : List Ent := [blk X.w 53 (encWorld X (W.off i)), blk Y.s 60 (encSide Y s), blk Z.s 60 (encSide Z t), ownL 32 5 encRule (.slice X.ra W.rules.length X.rc) W.rules, ownL 77 5 encNV (.slice X.fa (W.fly.eraseIdx i).length X.fc) (X.vs.eraseIdx i), cellsE X.vs W.fly, ownL 74 2 encEv (.slice X.ea W.events.length X.ec) W.events]
theorem St.gotOff {w0 w : World} {S : Nat → Prop} {i : Nat} {Y Z : SideA} {s t : SideS} {B : List Ent} (hS : St w0 S w (gotH X W i Y Z s t ++ B)) : St w0 S w (fixH (X.off i) (W.off i) Y Z s t ++ B) := by
  have hc1 : (cellsE X.vs W.fly).holds w := hS.get 5 rfl
  exact hS.upd 5 rfl (T := No) (Ext.refl _ _) (fun _ h => h.elim) cellsE_local (cellsE_erase hc1 i) (fun b hb => .inl (erase_foot hb))
theorem wdeliver_ok (k : Int) (h : Stands E q m w X W) : CallC Tryd.prog 7 #[.pointer (some ⟨X.w, 0, none⟩), .int .i64 k] w fun v w' => v = errV E (W.deliver k).1 ∧ ∃ X', X'.w = X.w ∧ Turns w w' (worldH X W) (worldH X' (W.deliver k).2) := by
  refine fn_intro tabOk Tryd.func7 (by kernel_rfl) rfl Tryd.ntmps7 (Nat.le_of_ble_eq_true rfl) ?_
  (conv => whnf)
  refine (wat_ok k h).mono ?_
  rintro v w1 ⟨rfl, hx⟩
  by_cases hu : W.at_ k = 0
  case neg =>
    obtain ⟨j, hj⟩ : ∃ j, W.at_ k = j + 1 := ⟨W.at_ k - 1, by omega⟩
    rw [show W.deliver k = (W.at_ k, W) from if_pos hu, hj]
    repeat' ((conv => whnf); first | refine RetC.mk ?_ | refine NzC.mk (by decide) ?_ | refine RngC.mk (by omega) (by omega) ?_ | refine IdxC.mk (by omega) (by omega) ?_ | refine brD (fun _ => ?_) (fun _ => ?_) | refine brND (fun _ => ?_) (fun _ => ?_) | refine brN (fun _ => ?_) (fun _ => ?_) | refine brI (fun _ => ?_) (fun _ => ?_))
    exact ⟨rfl, X, rfl, Turns.of_no h.has hx⟩
  rw [hu]
  obtain ⟨i, rfl, hi⟩ := at_in hu
  have hflen := h.ok.fly
  have hc : (cellsE X.vs W.fly).holds w := h.has.get 5 rfl
  have hl : X.vs.length = W.fly.length := hc.1
  obtain ⟨x, hxi⟩ : ∃ x, X.vs[i]? = some x := ⟨_, List.getElem?_eq_getElem (by omega)⟩
  obtain ⟨y, hyi⟩ : ∃ y, W.fly[i]? = some y := ⟨_, List.getElem?_eq_getElem (by omega)⟩
  obtain ⟨hxy, hsl⟩ := cellsE_get hc hxi hyi
  obtain ⟨hyf, hyl⟩ := h.ok.notes y (List.mem_of_getElem? hyi)
  have hxn : x.n = y.cells.length := hsl.len.symm
  obtain ⟨g, o, hfa⟩ : ∃ g o, X.fa = some ⟨g, o, none⟩ := by
    obtain ⟨b0, o0, h1, _⟩ := (ownL_slc (G := fun _ => True) codNote (h.has.get 4 rfl) (fun _ _ => trivial)).cells i x hxi
    exact ⟨b0, o0, h1⟩
  have hw : W.deliver i = (0, (W.off i).got y) := by
    unfold WorldS.deliver
    rw [if_neg (fun h => h hu)]
    show (match W.fly[(i : Int).toNat]? with | none => _ | some x => _) = _
    rw [Int.toNat_natCast, hyi]
  rw [hw]
  clear hc hsl hw hu
  cases hcl : y.claim
  case true =>
    have hxc : x.claim = true := hxy.claim.trans hcl
    have hS := h.fix.1.start.no hx
    clear hx
    (conv => whnf)
    refine hS.ld 0 rfl (v := .slice (some ⟨g, o, none⟩) W.fly.length X.fc) (by rw [← hfa]; rfl) ?_
    (conv => whnf)
    refine IdxC.mk (by omega) (by omega) ?_
    (conv => whnf)
    refine hS.ldRow codNote 4 (by rw [← hfa]; rfl) hxi rfl ?_
    (conv => whnf)
    refine hS.new (fun b6 w2 hb6 hS => ?_)
    (conv => whnf)
    refine hS.st 7 rfl (Nat.le_of_ble_eq_true rfl) rfl (fun w3 hS => ?_)
    (conv => whnf)
    refine hS.ld 0 rfl (v := .slice (some ⟨g, o, none⟩) W.fly.length X.fc) (by rw [← hfa]; rfl) ?_
    (conv => whnf)
    refine RngC.mk (by omega) (by omega) ?_
    (conv => whnf)
    refine (ndel2_ok hfa hl hi hflen (hS.get 4 rfl)).mono ?_
    rintro v w4 ⟨rfl, hx, ho⟩
    replace hS := hS.upd 4 rfl hx (fun b hb => foot_own hb) ownL_local ho (fun b hb => .inl (ownB_slice hb))
    clear hx ho
    (conv => whnf)
    refine hS.st 0 rfl (by exact Nat.le_of_ble_eq_true rfl) rfl (fun w5 hS => ?_)
    (conv => whnf)
    rw [← hfa] at hS
    replace hS : St w (inF (fixH X W X.a X.b W.a W.b)) w5 (gotH X W i X.a X.b W.a W.b ++ [blk b6 77 (encNV x)]) := hS
    refine hS.ld 7 rfl (v := .bool true) (by rw [← hxc]; rfl) ?_
    have hxe := hxy.epoch
    have hxf := hxy.fro
    have e1 : (W.off (i : Int)).epoch = W.epoch := rfl
    have e2 : (W.off (i : Int)).to = W.to := rfl
    have hg1 : y.epoch > W.epoch ∨ W.to < 0 → (W.off i).got y = { W.off i with to := x.fro, epoch := x.epoch } := fun h => by
      unfold WorldS.got
      rw [if_pos hcl, hxe, hxf]
      exact if_pos h
    have hg2 : ¬ (y.epoch > W.epoch ∨ W.to < 0) → (W.off i).got y = W.off i := fun h => by
      unfold WorldS.got
      rw [if_pos hcl]
      exact if_neg h
    have hT : ∀ {w' : World} {W' : WorldS}, W'.a = W.a → W'.b = W.b → Turns w w' (fixH X W X.a X.b W.a W.b) (fixH (X.off i) W' X.a X.b W.a W.b) → Turns w w' (worldH X W) (worldH (X.off i) W') := fun ha hb k => Turns.fixed h.has k rfl rfl ha hb
    have hne := hS.ne 7 0 rfl rfl (by decide)
    (conv => whnf)
    (refine drawS tabOk mixed [] No [0, 1, 2, 3, 4, 5, 6, 7, 8, 9, 10, 11, 12, 13] (by kernel_rfl) ?_; rintro w1 rfl; replace hS := hS.drew)
    repeat' ((conv => whnf); first | refine RetC.mk ?_ | refine NzC.mk (by decide) ?_ | refine RngC.mk (by omega) (by omega) ?_ | refine IdxC.mk (by omega) (by omega) ?_ | refine hS.ldF 7 rfl rfl id ?_ | refine hS.ldF 0 rfl rfl id ?_ | refine brD (fun _ => ?_) (fun _ => ?_) | refine brND (fun _ => ?_) (fun _ => ?_) | refine brN (fun _ => ?_) (fun _ => ?_) | refine brI (fun _ => ?_) (fun _ => ?_))
    all_goals first
      | (rw [hg2 (by omega)]; exact ⟨rfl, X.off i, rfl, hT rfl rfl (St.turns (St.gotOff (B := []) (hS.keep 7)))⟩)
      | (rw [hg1 (by omega)]
         (refine drawS tabOk mixed [] (fun b => b = X.w) [0, 1, 2, 3, 4, 5, 6, 7, 8, 9, 10, 11] (by kernel_rfl) ?_; rintro w1 rfl; replace hS := hS.drew)
         have hK := hS.ref (fun b => b = X.w)
         repeat' ((conv => whnf); first | refine RetC.mk ?_ | refine NzC.mk (by decide) ?_ | refine RngC.mk (by omega) (by omega) ?_ | refine IdxC.mk (by omega) (by omega) ?_ | refine hS.ldF 7 rfl rfl hne ?_ | (refine hS.stK hK 0 rfl (by exact Nat.le_of_ble_eq_true rfl) rfl rfl (fun w' hK hS => KeepC.mk hK ?_)) | refine brD (fun _ => ?_) (fun _ => ?_) | refine brND (fun _ => ?_) (fun _ => ?_) | refine brN (fun _ => ?_) (fun _ => ?_) | refine brI (fun _ => ?_) (fun _ => ?_))
         exact ⟨rfl, X.off i, rfl, hT rfl rfl (St.turns (St.gotOff (W := { W with to := x.fro, epoch := x.epoch }) (B := []) (hS.keep 7)))⟩)
  case false =>
    have hxc : x.claim = false := hxy.claim.trans hcl
    have hn : 1 - y.fro = 0 ∨ 1 - y.fro = 1 := by omega
    have hxf := hxy.fro
    cases hN : (W.side (1 - y.fro)).node with
    | none =>
      have hS := h.fix.1.start.no hx
      clear hx
      (conv => whnf)
      refine hS.ld 0 rfl (v := .slice (some ⟨g, o, none⟩) W.fly.length X.fc) (by rw [← hfa]; rfl) ?_
      (conv => whnf)
      refine IdxC.mk (by omega) (by omega) ?_
      (conv => whnf)
      refine hS.ldRow codNote 4 (by rw [← hfa]; rfl) hxi rfl ?_
      (conv => whnf)
      refine hS.new (fun b6 w2 hb6 hS => ?_)
      (conv => whnf)
      refine hS.st 7 rfl (Nat.le_of_ble_eq_true rfl) rfl (fun w3 hS => ?_)
      (conv => whnf)
      refine hS.ld 0 rfl (v := .slice (some ⟨g, o, none⟩) W.fly.length X.fc) (by rw [← hfa]; rfl) ?_
      (conv => whnf)
      refine RngC.mk (by omega) (by omega) ?_
      (conv => whnf)
      refine (ndel2_ok hfa hl hi hflen (hS.get 4 rfl)).mono ?_
      rintro v w4 ⟨rfl, hx, ho⟩
      replace hS := hS.upd 4 rfl hx (fun b hb => foot_own hb) ownL_local ho (fun b hb => .inl (ownB_slice hb))
      clear hx ho
      (conv => whnf)
      refine hS.st 0 rfl (by exact Nat.le_of_ble_eq_true rfl) rfl (fun w5 hS => ?_)
      (conv => whnf)
      rw [← hfa] at hS
      replace hS : St w (inF (fixH X W X.a X.b W.a W.b)) w5 (gotH X W i X.a X.b W.a W.b ++ [blk b6 77 (encNV x)]) := hS
      refine hS.ld 7 rfl (v := .bool false) (by rw [← hxc]; rfl) ?_
      have hg : (W.off i).got y = W.off i := by
        unfold WorldS.got
        rw [if_neg (by rw [hcl]; decide), if_neg (by omega)]
        show (match (W.side (1 - y.fro)).node with | none => _ | some N => _) = _
        rw [hN]
      have hk : Turns w w5 (worldH X W) (worldH (X.off i) (W.off i)) := Turns.fixed h.has (St.turns (St.gotOff (B := []) (hS.keep 7))) rfl rfl rfl rfl
      have hst : Stands E q m w5 (X.off i) (W.off i) := h.turns hk (h.ok.off i)
      rw [hg]
      (conv => whnf)
      refine hS.ld 7 rfl rfl ?_
      (conv => whnf)
      refine RngC.mk (by omega) (by omega) ?_
      (conv => whnf)
      rw [hxf]
      refine (wup_ok (1 - y.fro) hst).mono ?_
      rintro v w6 ⟨rfl, hx⟩
      rw [upErr_none (W := W.off i) hn hN]
      repeat' ((conv => whnf); first | refine RetC.mk ?_ | refine NzC.mk (by decide) ?_ | refine RngC.mk (by omega) (by omega) ?_ | refine IdxC.mk (by omega) (by omega) ?_ | refine brD (fun _ => ?_) (fun _ => ?_) | refine brND (fun _ => ?_) (fun _ => ?_) | refine brN (fun _ => ?_) (fun _ => ?_) | refine brI (fun _ => ?_) (fun _ => ?_))
      exact ⟨rfl, X.off i, rfl, hk.trans (Turns.of_no hst.has hx)⟩
    | some N =>
      obtain ⟨hH, hQ⟩ := h.half hn
      have hnk := ((h.ok.side hn).node N hN).1
      have hT : ∀ {w'}, Turns w w' (halfH X W (1 - y.fro)) (fixH (X.off i) (W.off i) (X.side (1 - y.fro)) (X.side (1 - (1 - y.fro))) ⟨some (N.hear y).2, (W.side (1 - y.fro)).byt⟩ (W.side (1 - (1 - y.fro))) ++ nodeB (X.side (1 - y.fro)).A (N.hear y).2 (W.side (1 - y.fro)).byt) → Turns w w' (worldH X W) (worldH (X.off i) ((W.off i).got y)) := fun k => by
        have hg : (W.off i).got y = (W.off i).setSide (1 - y.fro) ⟨some (N.hear y).2, (W.side (1 - y.fro)).byt⟩ := by
          unfold WorldS.got
          rw [if_neg (by rw [hcl]; decide), if_neg (by omega)]
          show (match (W.side (1 - y.fro)).node with | none => _ | some N => _) = _
          rw [hN]
          rfl
        rw [hg]
        refine Turns.world h.has hn (X' := X.off i) ?_ rfl (side_set (X := X.off i) (W := W.off i) hn ((X.off i).side (1 - y.fro)) _).2.2.2
        have := half_set (X := X.off i) (W := W.off i) hn (Y := (X.off i).side (1 - y.fro)) rfl ⟨some (N.hear y).2, (W.side (1 - y.fro)).byt⟩
        rw [setSide_id hn] at this
        rw [this]
        exact k
      have hS := hH.start.no hx
      clear hx
      rw [half_up hN] at hS
      (conv => whnf)
      refine hS.ld 0 rfl (v := .slice (some ⟨g, o, none⟩) W.fly.length X.fc) (by rw [← hfa]; rfl) ?_
      (conv => whnf)
      refine IdxC.mk (by omega) (by omega) ?_
      (conv => whnf)
      refine hS.ldRow codNote 4 (by rw [← hfa]; rfl) hxi rfl ?_
      (conv => whnf)
      refine hS.new (fun b6 w2 hb6 hS => ?_)
      (conv => whnf)
      refine hS.st 15 rfl (Nat.le_of_ble_eq_true rfl) rfl (fun w3 hS => ?_)
      (conv => whnf)
      refine hS.ld 0 rfl (v := .slice (some ⟨g, o, none⟩) W.fly.length X.fc) (by rw [← hfa]; rfl) ?_
      (conv => whnf)
      refine RngC.mk (by omega) (by omega) ?_
      (conv => whnf)
      refine (ndel2_ok hfa hl hi hflen (hS.get 4 rfl)).mono ?_
      rintro v w4 ⟨rfl, hx, ho⟩
      replace hS := hS.upd 4 rfl hx (fun b hb => foot_own hb) ownL_local ho (fun b hb => .inl (ownB_slice hb))
      clear hx ho
      (conv => whnf)
      refine hS.st 0 rfl (by exact Nat.le_of_ble_eq_true rfl) rfl (fun w5 hS => ?_)
      (conv => whnf)
      rw [← hfa] at hS
      replace hS : St w (inF (fixH X W (X.side (1 - y.fro)) (X.side (1 - (1 - y.fro))) ⟨some N, (W.side (1 - y.fro)).byt⟩ (W.side (1 - (1 - y.fro))) ++ nodeB (X.side (1 - y.fro)).A N (W.side (1 - y.fro)).byt)) w5 (gotH X W i (X.side (1 - y.fro)) (X.side (1 - (1 - y.fro))) ⟨some N, (W.side (1 - y.fro)).byt⟩ (W.side (1 - (1 - y.fro))) ++ (nodeB (X.side (1 - y.fro)).A N (W.side (1 - y.fro)).byt ++ [blk b6 77 (encNV x)])) := hS
      refine hS.ld 15 rfl (v := .bool false) (by rw [← hxc]; rfl) ?_
      have hst : Stands E q m w5 (X.off i) (W.off i) := by
        refine h.turns (m' := m) ?_ (h.ok.off i)
        refine Turns.world h.has hn (X' := X.off i) ?_ rfl rfl
        have := St.turns (St.gotOff (B := nodeB (X.side (1 - y.fro)).A N (W.side (1 - y.fro)).byt) (hS.keep 15))
        rw [← half_up hN] at this
        have h2 := half_up (X := X.off i) (W := W.off i) (n := 1 - y.fro) hN
        rw [h2]
        exact this
      (conv => whnf)
      refine hS.ld 15 rfl rfl ?_
      (conv => whnf)
      refine RngC.mk (by omega) (by omega) ?_
      (conv => whnf)
      rw [hxf]
      refine (wup_ok (1 - y.fro) hst).mono ?_
      rintro v w6 ⟨rfl, hx⟩
      replace hS := hS.no hx
      rw [upErr_some (W := W.off i) hn hN, if_pos rfl]
      clear hx hst
      rw [half_up hN] at hT hQ
      have hE := h.errs.ext hS.ext hQ
      have hQ' : High (nodeH (X.side (1 - y.fro)).A N) q := hQ.app.2.app.1
      have hs := hS.notin 1 7 7 rfl (List.mem_singleton.2 rfl) (.inl (by decide))
      have hp := hS.notin 15 7 7 rfl (List.mem_singleton.2 rfl) (.inr (by decide))
      have hsrc : 0 < x.n → ∀ b0 o0, x.a = some ⟨b0, o0, none⟩ → ¬ inF (nodeH (X.side (1 - y.fro)).A N) b0 := fun h0 b0 o0 ha => hS.notin 5 7 7 (e := cellsE X.vs W.fly) rfl (cellsE_foot.2 ⟨x, List.mem_of_getElem? hxi, footN_at h0 ha⟩) (.inl (by decide))
      (conv => whnf)
      (refine drawS tabOk mixed [] (inF (nodeH (X.side (1 - y.fro)).A N)) [0, 1, 2, 3, 4, 5] (by kernel_rfl) ?_; rintro w1 rfl; replace hS := hS.drew)
      (conv => whnf)
      refine hS.ldF 1 rfl (v := .pointer (some ⟨(X.side (1 - y.fro)).A.n, 0, none⟩)) rfl hs ?_
      (conv => whnf)
      refine hS.laXF 15 rfl rfl hp ?_
      (conv => whnf)
      have hw3 : Has _ (nodeH (X.side (1 - y.fro)).A N) := Has.left (B := [_, _]) (Has.right (A := [_, _, _, _, _, _, _]) hS.has)
      have hyx : (⟨x.fro, x.life, x.epoch, x.claim, y.cells⟩ : NoteS) = y := by
        obtain ⟨f, l, e, c, cs⟩ := y
        simp only [NoteS.mk.injEq, and_true]
        exact ⟨hxy.fro, hxy.life, hxy.epoch, hxy.claim⟩
      refine (nhear_ok x y.cells (cellsE_get (hS.get 5 rfl) hxi hyi).2 hsrc hw3 hnk ((hE.ext (Ext.drawn No _ _) fun _ h => h.elim).sub rfl) hQ').mono ?_
      rintro v w' ⟨rfl, hk⟩
      refine KeepC.mk hk.ext ?_
      rw [hyx] at hk
      replace hS := St.callAt (A := gotH X W i (X.side (1 - y.fro)) (X.side (1 - (1 - y.fro))) ⟨some N, (W.side (1 - y.fro)).byt⟩ (W.side (1 - (1 - y.fro)))) (B := [_, _]) hS hk
      repeat' ((conv => whnf); first | refine RetC.mk ?_ | refine NzC.mk (by decide) ?_ | refine RngC.mk (by omega) (by omega) ?_ | refine IdxC.mk (by omega) (by omega) ?_ | refine brD (fun _ => ?_) (fun _ => ?_) | refine brND (fun _ => ?_) (fun _ => ?_) | refine brN (fun _ => ?_) (fun _ => ?_) | refine brI (fun _ => ?_) (fun _ => ?_))
      exact ⟨rfl, X.off i, rfl, hT (St.turns (St.gotOff (B := nodeB (X.side (1 - y.fro)).A (N.hear y).2 (W.side (1 - y.fro)).byt) (hS.keep 15)))⟩
end
end Go.Proofs.YtoaghhcjlfiflaaDoor

namespace Go.Proofs.YtoaghhcjlfiflaaDoor
open Go Ev
section
variable {w w' : World} {X : WorldA} {W : WorldS} {E : Nat → Addr} {q m : Nat}
theorem wflying_ok (h : Stands E q m w X W) : CallC Tryd.prog 13 #[.pointer (some ⟨X.w, 0, none⟩)] w fun v w' => ∃ a' c' vs', v = .slice a' W.fly.length c' ∧ Ext No w w' ∧ Has w' [ownL 77 5 encNV v vs', cellsE vs' W.fly] := by
  have hflen := h.ok.fly
  have hc : (cellsE X.vs W.fly).holds w := h.has.get 5 rfl
  have hl : X.vs.length = W.fly.length := hc.1
  have hrow := ownL_slc (G := fun _ => True) codNote (h.has.get 4 rfl) (fun _ _ => trivial)
  have hnote := h.ok.notes
  refine fn_intro tabOk Tryd.func13 (by kernel_rfl) rfl Tryd.ntmps13 (Nat.le_of_ble_eq_true rfl) ?_
  (conv => whnf)
  refine h.has.start.ld 0 rfl rfl ?_
  have hS := ((St.start w No).addNil 77 5 encNV).add (e := cellsE [] []) cellsE_local (cellsE_nil w) (fun b hb => by simp [cellsE] at hb) (fun f _ b _ hb => by simp [cellsE] at hb)
  (conv => whnf)
  refine loopR tabOk (fun σ w' q => ∃ (k : Nat) (a' : Option Addr) (c' : Nat) (vs' : List NoteV), vs'.length = k ∧ σ = [(11, .int .i64 k), (10, .int .i64 (W.fly.length : Nat)), (9, .slice X.fa W.fly.length X.fc), (3, .slice a' k c')] ∧ q = W.fly.length - k ∧ k ≤ W.fly.length ∧ St w No w' [ownL 77 5 encNV (.slice a' k c') vs', cellsE vs' (W.fly.take k)])
    (σ' := [(11, .int .i64 ((0 : Nat) : Int)), (10, .int .i64 (W.fly.length : Nat)), (9, .slice X.fa W.fly.length X.fc), (3, .slice none 0 0)]) (n := W.fly.length) ⟨rfl, rfl, rfl, rfl, trivial⟩ ⟨0, none, 0, [], rfl, rfl, rfl, Nat.zero_le _, hS⟩ ?_
  clear hS
  rintro _ w1 q' ⟨k, a', c', vs', hvl, rfl, rfl, hk, hS⟩
  (conv => whnf)
  refine brD (fun h3 => ?_) (fun h3 => ?_)
  · have hk3 : k < W.fly.length := by omega
    obtain ⟨b0, o0, x, hxk, _, hfa, hb0, hcx⟩ := hrow.at hk3
    obtain ⟨y, hyk⟩ : ∃ y, W.fly[k]? = some y := ⟨_, List.getElem?_eq_getElem hk3⟩
    obtain ⟨hxy, hsl⟩ := cellsE_get hc hxk hyk
    have hyl := (hnote y (List.mem_of_getElem? hyk)).2
    have hxn : x.n = y.cells.length := hsl.len.symm
    have hst : W.fly.take (k + 1) = W.fly.take k ++ [y] := by rw [List.take_add_one, hyk]; rfl
    rw [hfa]
    (conv => whnf)
    refine IdxC.mk (by omega) (by omega) ?_
    (conv => whnf)
    refine hS.lar rfl hcx id ?_
    (conv => whnf)
    refine hS.new (fun b6 w2 hb6 hS => ?_)
    (conv => whnf)
    refine hS.st 2 rfl (Nat.le_of_ble_eq_true rfl) rfl (fun w3 hS => ?_)
    (conv => whnf)
    refine hS.laX 2 rfl rfl ?_
    (conv => whnf)
    refine (wown_ok (hsl.no hS.ext) (by omega)).mono ?_
    rintro v w4 ⟨a2, c2, rfl, hx, ho, hf⟩
    replace hS := hS.made hx ownL_local ho (fun g hg => hf g (by simpa [ownL, own] using hg))
    clear hx ho hf
    (conv => whnf)
    refine hS.litX Tryd.underlying44 (sz := 5) (by kernel_rfl) (z := .agg (encNV noNV).toArray) (by kernel_rfl) rfl rfl (cs := encNV (x.with a2 c2)) (by rfl) (fun b9 w5 hb9 hx hS => ?_)
    (conv => whnf)
    refine hS.appS codNote 0 (ys := [x.with a2 c2]) (G := fun _ => True) Tryd.underlying44 (bytes := 56) (by kernel_rfl) (z := .agg (encNV noNV).toArray) (by kernel_rfl) rfl rfl (Slc.of_blk codNote (hS.blk 4 rfl) rfl (by simp) (fun _ _ => trivial) rfl) (by rw [hvl]; unfold maxLen; omega) (by rw [hvl]; omega) (fun a3 c3 w6 hS => ?_)
    rw [hvl] at hS ⊢
    have hcs : Slc w6 10 encCell (fun _ => True) a2 x.n y.cells := ownL_slc codCell (hS.get 3 rfl) (fun _ _ => trivial)
    have hS2 := ((hS.sel [1, 3, 0] (by decide)).join (g := cellsE (vs' ++ [x.with a2 c2]) (W.fly.take k ++ [y])) cellsE_local (cellsE_app (hS.get 1 rfl) (cellsE_one ⟨hxy.fro, hxy.life, hxy.epoch, hxy.claim⟩ hcs)) (fun b hb => by
      obtain ⟨z, hz, hb⟩ := cellsE_foot.1 hb
      rcases List.mem_append.1 hz with hz | hz
      · exact .inl (cellsE_foot.2 ⟨z, hz, hb⟩)
      · obtain rfl := List.mem_singleton.1 hz
        exact .inr (foot_own (footN_own hb)))).sel [1, 0] (by decide)
    rw [← hst] at hS2
    (conv => whnf)
    refine RngC.mk (by omega) (by omega) ?_
    (conv => whnf)
    refine LoopE.mk ⟨_, [(11, .int .i64 ((k + 1 : Nat) : Int)), (10, _), (9, _), (3, .slice a3 (k + 1) c3)], ?_, ⟨rfl, rfl, rfl, rfl, trivial⟩, ⟨k + 1, a3, c3, vs' ++ [x.with a2 c2], by rw [List.length_append, hvl]; rfl, rfl, rfl, by omega, hS2⟩⟩
    omega
  · obtain rfl : k = W.fly.length := by omega
    rw [List.take_length] at hS
    repeat' ((conv => whnf); first | refine RetC.mk ?_ | refine NzC.mk (by decide) ?_ | refine RngC.mk (by omega) (by omega) ?_ | refine IdxC.mk (by omega) (by omega) ?_ | refine brD (fun _ => ?_) (fun _ => ?_) | refine brND (fun _ => ?_) (fun _ => ?_) | refine brN (fun _ => ?_) (fun _ => ?_) | refine brI (fun _ => ?_) (fun _ => ?_))
    exact ⟨a', c', vs', rfl, hS.ext, hS.has⟩
end
end Go.Proofs.YtoaghhcjlfiflaaDoor

namespace Go.Proofs.YtoaghhcjlfiflaaDoor
open Go Ev
theorem notes_cells (N : NodeS) (c : Bool) : ∀ n ∈ (N.notes c).1, (n.claim = true ∧ n.cells = []) ∨ (n.claim = false ∧ n.cells = cellsOfN (N.notes c).1) := by
  cases hb : N.beat
  · cases c
    · rw [notes_ff hb]
      intro n hn
      cases hn
    · rw [notes_tf hb]
      intro n hn
      obtain rfl := List.mem_singleton.1 hn
      exact .inl ⟨rfl, rfl⟩
  · rw [notes_t hb]
    intro n hn
    rcases List.mem_cons.1 hn with rfl | hn
    · exact .inl ⟨rfl, rfl⟩
    · obtain rfl := List.mem_singleton.1 hn
      exact .inr ⟨rfl, by simp [cellsOfN]⟩
theorem tick_cells (N : NodeS) (B : BytS) : ∀ n ∈ (N.tick B).2.1, (n.claim = true ∧ n.cells = []) ∨ (n.claim = false ∧ n.cells = cellsOfN (N.tick B).2.1) := by
  unfold NodeS.tick
  split
  · intro n hn
    cases hn
  split
  · split
    · intro n hn
      cases hn
    · exact notes_cells _ _
  · exact notes_cells _ _
theorem notes_short (N : NodeS) (c : Bool) : (N.notes c).1.length ≤ 2 := by
  cases hb : N.beat
  · cases c
    · rw [notes_ff hb]
      exact Nat.zero_le _
    · rw [notes_tf hb]
      exact Nat.le_succ _
  · rw [notes_t hb]
    exact Nat.le_refl _
theorem tick_short (N : NodeS) (B : BytS) : (N.tick B).2.1.length ≤ 2 := by
  unfold NodeS.tick
  split
  · exact Nat.zero_le _
  split
  · split
    · exact Nat.zero_le _
    · exact notes_short _ _
  · exact notes_short _ _
end Go.Proofs.YtoaghhcjlfiflaaDoor

namespace Go.Proofs.YtoaghhcjlfiflaaDoor.Ev
open Go
def loopsL : Code → List Code
  | .loop c => c :: loopsL c
  | .seq a b => loopsL a ++ loopsL b
  | .cond _ a b => loopsL a ++ loopsL b
  | .block _ c => loopsL c
  | .scope c => loopsL c
  | _ => []
def loopAt (f : Func) (i : Nat) : Code := match f.body with
  | some c => (loopsL c).getD i .skip
  | none => .skip
theorem St.as {w0 w : World} {S : Nat → Prop} {H H' : List Ent} (h : St w0 S w H) (e : H = H') : St w0 S w H' := e ▸ h
end Go.Proofs.YtoaghhcjlfiflaaDoor.Ev

namespace Go.Proofs.YtoaghhcjlfiflaaDoor
open Go Ev
section
variable {w : World}
theorem slc_nil {α : Type} (w : World) (sz : Nat) (enc : α → List Value) (G : α → Prop) (a : Option Addr) : Slc w sz enc G a 0 [] := ⟨rfl, by decide, fun k x hk => by simp at hk, fun x hx => by simp at hx⟩
end
end Go.Proofs.YtoaghhcjlfiflaaDoor

namespace Go.Proofs.YtoaghhcjlfiflaaDoor
open Go Ev
section
variable {w w' : World} {X : WorldA} {W : WorldS} {E : Nat → Addr} {q m : Nat}
def WorldS.with (W : WorldS) (f : List NoteS) (e : List (Int × Int)) : WorldS := { W with fly := f, events := e }
def WorldA.with (X : WorldA) (fa : Option Addr) (fc : Nat) (vs : List NoteV) (ea : Option Addr) (ec : Nat) : WorldA := { X with fa := fa, fc := fc, vs := vs, ea := ea, ec := ec }
theorem half_with {n : Int} (hn : n = 0 ∨ n = 1) (s : SideS) (f : List NoteS) (e : List (Int × Int)) (fa : Option Addr) (fc : Nat) (vs : List NoteV) (ea : Option Addr) (ec : Nat) :
    halfH (X.with fa fc vs ea ec) ((W.setSide n s).with f e) n = fixH (X.with fa fc vs ea ec) (W.with f e) (X.side n) (X.side (1 - n)) s (W.side (1 - n)) ++ sideH (X.side n) s := by
  rcases hn with rfl | rfl <;> rfl
theorem with_side {n : Int} (hn : n = 0 ∨ n = 1) (s : SideS) (f : List NoteS) (e : List (Int × Int)) : ((W.setSide n s).with f e).side (1 - n) = W.side (1 - n) := by
  rcases hn with rfl | rfl <;> rfl
theorem noteV_is {l : List NoteS} {x : Option Addr} {y : Nat} (hl : ∀ n ∈ l, (n.claim = true ∧ n.cells = []) ∨ (n.claim = false ∧ n.cells = cellsOfN l)) (h1 : Slc w 10 encCell (fun _ => True) x (cellsOfN l).length (cellsOfN l)) {n : NoteS} (hn : n ∈ l) : NoteIs (noteV x y n) n ∧ Slc w 10 encCell (fun _ => True) (noteV x y n).a (noteV x y n).n n.cells := by
  refine ⟨⟨rfl, rfl, rfl, rfl⟩, ?_⟩
  rcases hl n hn with ⟨h3, h4⟩ | ⟨h3, h4⟩
  · simp only [noteV, h4]
    exact slc_nil _ _ _ _ _
  · simp only [noteV, h3, h4]
    exact h1
def evT (X : WorldA) (W : WorldS) : Nat → Prop := fun d => d = X.w ∨ d ∈ (ownL 74 2 encEv (.slice X.ea W.events.length X.ec) W.events).foot
def flyK (F : List NoteS) (l : List NoteS) (k : Nat) : List NoteS := F ++ (l.take k).take (200 - F.length)
theorem flyK_more {F l : List NoteS} {k : Nat} {x : NoteS} (hx : l[k]? = some x) (h : (flyK F l k).length < 200) : flyK F l (k + 1) = flyK F l k ++ [x] := by
  have hk := (List.getElem?_eq_some_iff.1 hx).1
  unfold flyK at h ⊢
  rw [List.length_append, List.length_take, List.length_take] at h
  rw [List.take_take, List.take_take, Nat.min_eq_right (by omega), Nat.min_eq_right (by omega), List.take_add_one, hx, List.append_assoc]
  rfl
theorem flyK_full {F l : List NoteS} {k : Nat} (hF : F.length ≤ 200) (h : ¬ (flyK F l k).length < 200) : flyK F l (k + 1) = flyK F l k := by
  unfold flyK at h ⊢
  rw [List.length_append, List.length_take, List.length_take] at h
  rw [List.take_take, List.take_take, Nat.min_eq_left (by omega), Nat.min_eq_left (by omega)]
theorem flyK_le {F l : List NoteS} {k : Nat} (hF : F.length ≤ 200) : (flyK F l k).length ≤ 200 := by
  unfold flyK
  rw [List.length_append, List.length_take]
  omega
abbrev tickH (X : WorldA) (W : WorldS) (Y Z : SideA) (N : NodeS) (B : BytS) (t : SideS) (a : Option Addr) (c : Nat) (x : Option Addr) (y : Nat) (l : List NoteS) : List Ent :=
  fixH X W Y Z ⟨some N, B⟩ t ++ (nodeB Y.A N B ++ noteH a c x y l)
theorem flyK_zero (F l : List NoteS) : flyK F l 0 = F := by simp [flyK]
theorem flyK_end {F l : List NoteS} {k : Nat} (h : k = l.length) : flyK F l k = F ++ l.take (200 - F.length) := by
  subst h
  unfold flyK
  rw [List.take_length]
set_option maxHeartbeats 4000000 in
set_option maxRecDepth 10000 in
theorem tickLoop {S : Nat → Prop} {w5 : World} {Y Z : SideA} {N' : NodeS} {B' : BytS} {t : SideS} {a x ea : Option Addr} {c y ec ll : Nat} {l : List NoteS} {ev : List (Int × Int)} {σ : Slots} {Q : Exit → Slots → World → Prop}
    (hs : Sub [(90, .int .i64 ((0 : Nat) : Int)), (89, .int .i64 (ll : Nat)), (88, .slice a ll c), (0, .pointer (some ⟨X.w, 0, none⟩))] σ)
    (hS : St w S w5 (tickH (X.with X.fa X.fc X.vs ea ec) (W.with W.fly ev) Y Z N' B' t a c x y l)) (hflen : W.fly.length ≤ 200) (hshort : l.length ≤ 2) (hll : (l.map (noteV x y)).length = ll) (hnl : ll = l.length)
    (hcell : ∀ n ∈ l, (n.claim = true ∧ n.cells = []) ∨ (n.claim = false ∧ n.cells = cellsOfN l)) (hfew : ∀ x ∈ l, x.cells.length ≤ 8)
    (hQ : ∀ σ w6, (∃ fa fc vs, St w S w6 (tickH (X.with fa fc vs ea ec) (W.with (flyK W.fly l ll) ev) Y Z N' B' t a c x y l)) → Q (.exit 0) σ w6) :
    LoopC Tryd.prog tab 112 (loopAt Tryd.f6 0) Q σ w5 := by
  refine loopR tabOk (fun σ w' q => ∃ (k : Nat) (fa : Option Addr) (fc : Nat) (vs : List NoteV), σ = [(90, .int .i64 k), (89, .int .i64 (ll : Nat)), (88, .slice a ll c), (0, .pointer (some ⟨X.w, 0, none⟩))] ∧ q = ll - k ∧ k ≤ ll ∧ St w S w' (tickH (X.with fa fc vs ea ec) (W.with (flyK W.fly l k) ev) Y Z N' B' t a c x y l))
    (σ' := [(90, .int .i64 ((0 : Nat) : Int)), (89, .int .i64 (ll : Nat)), (88, .slice a ll c), (0, .pointer (some ⟨X.w, 0, none⟩))]) (n := ll) hs ⟨0, X.fa, X.fc, X.vs, rfl, rfl, Nat.zero_le _, by rw [flyK_zero]; exact hS⟩ ?_
  clear hS
  rintro _ w5 q' ⟨k, fa, fc, vs, rfl, rfl, hk, hS⟩
  (conv => whnf)
  refine brD (fun h3 => ?_) (fun h3 => ?_)
  · have hk3 : k < l.length := by omega
    obtain ⟨z, hz⟩ : ∃ z, l[k]? = some z := ⟨_, List.getElem?_eq_getElem hk3⟩
    have hzm := List.mem_of_getElem? hz
    have hxk : (l.map (noteV x y))[k]? = some (noteV x y z) := by rw [List.getElem?_map, hz]; rfl
    have hz8 := hfew z hzm
    obtain ⟨g, o, hga⟩ : ∃ g o, a = some ⟨g, o, none⟩ := by
      obtain ⟨b0, o0, h1, _⟩ := (ownL_slc (G := fun _ => True) codNote (hS.get 15 rfl) (fun _ _ => trivial)).cells k _ hxk
      exact ⟨b0, o0, h1⟩
    subst hga
    have hvl : vs.length = (flyK W.fly l k).length := (hS.get 5 rfl : (cellsE vs (flyK W.fly l k)).holds _).1
    have hfl := flyK_le (l := l) (k := k) hflen
    (conv => whnf)
    refine IdxC.mk (by omega) (by omega) ?_
    (conv => whnf)
    refine hS.ldRow codNote 15 (by rfl) hxk rfl ?_
    (conv => whnf)
    refine hS.new (fun b6 w2 hb6 hS => ?_)
    (conv => whnf)
    refine hS.st 17 rfl (Nat.le_of_ble_eq_true rfl) rfl (fun w3 hS => ?_)
    (conv => whnf)
    refine hS.ld 0 rfl rfl ?_
    (conv => whnf)
    refine brD (fun h4 => ?_) (fun h4 => ?_)
    · have hmore := flyK_more hz (Int.ofNat_lt.1 h4)
      (conv => whnf)
      refine drawT tabOk mixed [4, 5] (fun _ => True) (.take 0 (.take 1 (.take 2 (.take 3 (.alt 4 (.alt 5 (.alt 6 (.alt 7 (.alt 8 (.take 9 (.take 10 (.alt 11 .fin .fin))) .fin) .fin) .fin) .fin) (.alt 5 (.alt 4 (.alt 6 (.alt 7 (.alt 8 (.take 9 (.take 10 (.alt 11 .fin .fin))) .fin) .fin) .fin) (.alt 6 (.alt 4 (.alt 7 (.alt 8 (.take 9 (.take 10 (.alt 11 .fin .fin))) .fin) .fin) (.alt 7 (.alt 4 (.alt 8 (.take 9 (.take 10 (.alt 11 .fin .fin))) .fin) .fin) .fin)) .fin)) .fin)))))) (by kernel_rfl) ?_
      rintro w6 rfl
      replace hS := hS.drew
      have hK := hS.ref (fun _ => True)
      repeat' ((conv => whnf); first | refine RetC.mk ?_ | refine NzC.mk (by decide) ?_ | refine RngC.mk (by omega) (by omega) ?_ | refine IdxC.mk (by omega) (by omega) ?_ | refine hS.ld 0 rfl rfl (KeepC.mk hK ?_) | refine hS.laX 17 rfl rfl (KeepC.mk hK ?_) | (refine (wown_ok (noteV_is hcell (ownL_slc codCell (hS.get 16 rfl) (fun _ _ => trivial)) hzm).2 (by show z.cells.length ≤ 1000; omega)).mono ?_; rintro v w2 ⟨a', c', rfl, hx, ho, hf⟩; replace hS := hS.made hx ownL_local ho (fun g hg => hf g (by simpa [ownL, own] using hg)); replace hK := hK.trans hx.of_no; clear hx ho hf; refine KeepC.mk hK ?_) | (refine hS.litX Tryd.underlying44 (sz := 5) (by kernel_rfl) (z := .agg (encNV noNV).toArray) (by kernel_rfl) rfl rfl (cs := encNV ((noteV x y z).with a' c')) (by rfl) (fun b9 w3 hb9 hx hS => ?_); replace hK := hK.trans hx.of_no; clear hx; refine KeepC.mk hK ?_) | (refine hS.appX codNote 4 (ys := [(noteV x y z).with a' c']) (G := fun _ => True) Tryd.underlying44 (bytes := 56) (by kernel_rfl) (z := .agg (encNV noNV).toArray) (by kernel_rfl) rfl rfl (Slc.of_blk codNote (hS.blk 19 rfl) rfl (by simp) (fun _ _ => trivial) rfl) (by show vs.length + 1 ≤ _; rw [hvl]; unfold maxLen; omega) (by show (vs.length + 1) * 56 ≤ _; rw [hvl]; omega) (fun fa2 fc2 w9 hx hS => ?_); replace hK := hK.trans (hx.mono fun _ _ => trivial); clear hx; refine KeepC.mk hK ?_) | (refine hS.stK hK 0 rfl (by exact Nat.le_of_ble_eq_true rfl) rfl trivial (fun w' hK hS => KeepC.mk hK ?_)) | refine And.intro ?_ ?_ | refine brD (fun _ => ?_) (fun _ => ?_) | refine brND (fun _ => ?_) (fun _ => ?_) | refine brN (fun _ => ?_) (fun _ => ?_) | refine brI (fun _ => ?_) (fun _ => ?_))
      all_goals
        have hcs : Slc _ 10 encCell (fun _ => True) a' z.cells.length z.cells := ownL_slc codCell (hS.get 18 rfl) (fun _ _ => trivial)
        have hj := ((hS.sel [5, 18, 0, 1, 2, 3, 4, 6, 7, 8, 9, 10, 11, 12, 13, 14, 15, 16] (by decide)).join (g := cellsE (vs ++ [(noteV x y z).with a' c']) (flyK W.fly l k ++ [z])) cellsE_local (cellsE_app (hS.get 5 rfl) (cellsE_one ⟨rfl, rfl, rfl, rfl⟩ hcs)) (fun b hb => by
          obtain ⟨u, hu, hb⟩ := cellsE_foot.1 hb
          rcases List.mem_append.1 hu with hu | hu
          · exact .inl (cellsE_foot.2 ⟨u, hu, hb⟩)
          · obtain rfl := List.mem_singleton.1 hu
            exact .inr (foot_own (footN_own hb)))).sel [1, 2, 3, 4, 5, 0, 6, 7, 8, 9, 10, 11, 12, 13, 14, 15, 16] (by decide)
        refine LoopE.mk ⟨_, [(90, .int .i64 ((k + 1 : Nat) : Int)), (89, _), (88, _), (0, _)], ?_, ⟨rfl, rfl, rfl, rfl, trivial⟩, ⟨k + 1, fa2, fc2, vs ++ [(noteV x y z).with a' c'], rfl, rfl, by omega, ?_⟩⟩
        · omega
        · rw [hmore]
          have hl1 : (X.with fa fc vs ea ec).vs.length + 1 = (flyK W.fly l k ++ [z]).length := by rw [List.length_append, ← hvl]; rfl
          rw [hl1] at hj
          exact hj
    · have hmore := flyK_full (l := l) (k := k) hflen (fun h => h4 (Int.ofNat_lt.2 h))
      (conv => whnf)
      refine RngC.mk (by omega) (by omega) ?_
      (conv => whnf)
      refine LoopE.mk ⟨_, [(90, .int .i64 ((k + 1 : Nat) : Int)), (89, _), (88, _), (0, _)], ?_, ⟨rfl, rfl, rfl, rfl, trivial⟩, ⟨k + 1, fa, fc, vs, rfl, rfl, by omega, ?_⟩⟩
      · omega
      · rw [hmore]
        exact hS.keep 17
  · obtain rfl : k = ll := by omega
    (conv => whnf)
    exact hQ _ _ ⟨fa, fc, vs, hS⟩
set_option maxHeartbeats 4000000 in
set_option maxRecDepth 10000 in
theorem wtick_ok (n : Int) (h : Stands E q m w X W) (hm : m + 34 ≤ 40000000) : CallC Tryd.prog 6 #[.pointer (some ⟨X.w, 0, none⟩), .int .i64 n] w fun v w' => v = errV E (W.tick n).1 ∧ ∃ X', X'.w = X.w ∧ Turns w w' (worldH X W) (worldH X' (W.tick n).2) := by
  refine fn_intro tabOk Tryd.func6 (by kernel_rfl) rfl Tryd.ntmps6 (Nat.le_of_ble_eq_true rfl) ?_
  (conv => whnf)
  refine (wup_ok n h).mono ?_
  rintro v w1 ⟨rfl, hx⟩
  by_cases hn : n = 0 ∨ n = 1
  case neg =>
    rw [show W.tick n = (2, W) from if_pos (by omega), show W.upErr n = 2 from if_pos (by omega)]
    repeat' ((conv => whnf); first | refine RetC.mk ?_ | refine NzC.mk (by decide) ?_ | refine RngC.mk (by omega) (by omega) ?_ | refine IdxC.mk (by omega) (by omega) ?_ | refine brD (fun _ => ?_) (fun _ => ?_) | refine brND (fun _ => ?_) (fun _ => ?_) | refine brN (fun _ => ?_) (fun _ => ?_) | refine brI (fun _ => ?_) (fun _ => ?_))
    exact ⟨rfl, X, rfl, Turns.of_no h.has hx⟩
  cases hN : (W.side n).node with
  | none =>
    rw [show W.tick n = (7, W) by unfold WorldS.tick; rw [if_neg (by omega), hN], upErr_none hn hN]
    repeat' ((conv => whnf); first | refine RetC.mk ?_ | refine NzC.mk (by decide) ?_ | refine RngC.mk (by omega) (by omega) ?_ | refine IdxC.mk (by omega) (by omega) ?_ | refine brD (fun _ => ?_) (fun _ => ?_) | refine brND (fun _ => ?_) (fun _ => ?_) | refine brN (fun _ => ?_) (fun _ => ?_) | refine brI (fun _ => ?_) (fun _ => ?_))
    exact ⟨rfl, X, rfl, Turns.of_no h.has hx⟩
  | some N =>
    rw [show W.tick n = W.ticked n N (N.tick (W.side n).byt) by unfold WorldS.tick; rw [if_neg (by omega), hN], upErr_some hn hN, if_pos rfl]
    obtain ⟨hH, hQ⟩ := h.half hn
    have hnk := ((h.ok.side hn).node N hN).1
    have hBk := (h.ok.side hn).bok
    have hflen := h.ok.fly
    have hevl := h.ok.events
    have hbok := NodeS.tick_bok (N := N) hBk
    have hshort := tick_short N (W.side n).byt
    have hcell := tick_cells N (W.side n).byt
    have hfew := tick_few hnk (W.side n).byt
    have hS := hH.start.no hx
    have hE := h.errs.ext hS.ext hQ
    have hT : ∀ {w'} {s : SideS}, Turns w w' (halfH X W n) (fixH X W (X.side n) (X.side (1 - n)) s (W.side (1 - n)) ++ sideH (X.side n) s) → ∃ X', X'.w = X.w ∧ Turns w w' (worldH X W) (worldH X' (W.setSide n s)) := fun {w'} {s} k => ⟨X, rfl, by
      have := Turns.side h.has hn (Y := X.side n) rfl k
      rwa [setSide_id hn] at this⟩
    have hT2 : ∀ {w'} {s : SideS} {f : List NoteS} {e : List (Int × Int)} {fa : Option Addr} {fc : Nat} {vs : List NoteV} {ea : Option Addr} {ec : Nat}, Turns w w' (halfH X W n) (fixH (X.with fa fc vs ea ec) (W.with f e) (X.side n) (X.side (1 - n)) s (W.side (1 - n)) ++ sideH (X.side n) s) → ∃ X', X'.w = X.w ∧ Turns w w' (worldH X W) (worldH X' ((W.setSide n s).with f e)) := fun {w'} {s} {f} {e} {fa} {fc} {vs} {ea} {ec} k => ⟨X.with fa fc vs ea ec, rfl, by
      rw [← half_with hn] at k
      exact Turns.world h.has hn k rfl (with_side hn s f e)⟩
    have hU : ∀ {w'} {s : SideS}, St w (inF (halfH X W n)) w' (fixH X W (X.side n) (X.side (1 - n)) s (W.side (1 - n)) ++ sideH (X.side n) s) → ∃ X', X'.w = X.w ∧ Turns w w' (worldH X W) (worldH X' (W.setSide n s)) := fun k => hT (St.turns k)
    have hU2 : ∀ {w'} {s : SideS} {f : List NoteS} {e : List (Int × Int)} {fa : Option Addr} {fc : Nat} {vs : List NoteV} {ea : Option Addr} {ec : Nat}, St w (inF (halfH X W n)) w' (fixH (X.with fa fc vs ea ec) (W.with f e) (X.side n) (X.side (1 - n)) s (W.side (1 - n)) ++ sideH (X.side n) s) → ∃ X', X'.w = X.w ∧ Turns w w' (worldH X W) (worldH X' ((W.setSide n s).with f e)) := fun k => hT2 (St.turns k)
    generalize hSS : inF (halfH X W n) = S at hS hU hU2
    rw [half_up hN] at hS hQ
    clear hH hx hT hT2 hSS
    generalize (W.side n).byt = B at *
    (conv => whnf)
    refine hS.ld 1 rfl (v := .pointer (some ⟨(X.side n).A.n, 0, none⟩)) rfl ?_
    (conv => whnf)
    refine hS.ld 7 rfl rfl ?_
    (conv => whnf)
    refine (role_active (hS.blk 8 rfl)).mono ?_
    rintro v w2 ⟨rfl, rfl⟩
    (conv => whnf)
    refine hS.ld 1 rfl (v := .pointer (some ⟨(X.side n).A.n, 0, none⟩)) rfl ?_
    (conv => whnf)
    have hw3 : Has _ (nodeB (X.side n).A N B) := Has.right (A := [_, _, _, _, _, _, _]) hS.has
    refine (ntick_ok hw3 hnk hBk (by omega) (hE.sub rfl) hQ.app.2).mono ?_
    rintro v w3 ⟨a, c, x, y, rfl, hk⟩
    replace hS := St.callAt (A := fixH X W (X.side n) (X.side (1 - n)) ⟨some N, B⟩ (W.side (1 - n))) (B := []) hS hk
    clear hk hw3
    generalize N.tick B = T at *
    obtain ⟨e, l, N', B'⟩ := T
    dsimp only at *
    replace hS : St w S w3 (tickH X W (X.side n) (X.side (1 - n)) N' B' (W.side (1 - n)) a c x y l) := hS
    have hnl : (l.map (noteV x y)).length = l.length := List.length_map _
    generalize hll : (l.map (noteV x y)).length = ll at hnl
    (conv => whnf)
    refine hS.ld 1 rfl rfl ?_
    (conv => whnf)
    refine (bpower_ok (hS.blk 14 rfl) hbok.len).mono ?_
    rintro v w4 ⟨rfl, hx⟩
    replace hS := hS.no hx
    clear hx
    have hpl : W.ticked n N (e, l, N', B') = if B'.off = true then (e, W.setSide n ⟨none, B'⟩) else if e ≠ 0 then (e, W.setSide n ⟨some N', B'⟩) else
      (0, (W.setSide n ⟨some N', B'⟩).with (W.fly ++ l.take (200 - W.fly.length)) (if N.role.active = false ∧ N'.role.active = true ∧ W.events.length < 1000 then W.events ++ [(n, N'.role.epoch)] else W.events)) := rfl
    rw [hpl]
    clear hpl
    cases hoff : B'.off
    case true =>
      rw [if_pos rfl]
      (conv => whnf)
      refine hS.st 1 rfl (by exact Nat.le_of_ble_eq_true rfl) rfl (fun w' hS => ?_)
      repeat' ((conv => whnf); first | refine RetC.mk ?_ | refine NzC.mk (by decide) ?_ | refine RngC.mk (by omega) (by omega) ?_ | refine IdxC.mk (by omega) (by omega) ?_ | refine brD (fun _ => ?_) (fun _ => ?_) | refine brND (fun _ => ?_) (fun _ => ?_) | refine brN (fun _ => ?_) (fun _ => ?_) | refine brI (fun _ => ?_) (fun _ => ?_))
      exact ⟨rfl, hU (s := ⟨none, B'⟩) (hS.sel [0, 1, 2, 3, 4, 5, 6, 14] (by decide))⟩
    rw [if_neg (by decide)]
    cases e with
    | succ j =>
      rw [if_pos (Nat.succ_ne_zero j)]
      repeat' ((conv => whnf); first | refine RetC.mk ?_ | refine NzC.mk (by decide) ?_ | refine RngC.mk (by omega) (by omega) ?_ | refine IdxC.mk (by omega) (by omega) ?_ | refine brD (fun _ => ?_) (fun _ => ?_) | refine brND (fun _ => ?_) (fun _ => ?_) | refine brN (fun _ => ?_) (fun _ => ?_) | refine brI (fun _ => ?_) (fun _ => ?_))
      exact ⟨rfl, hU (s := ⟨some N', B'⟩) (hS.keep 15)⟩
    | zero =>
      rw [if_neg (fun h => h rfl)]
      have hev0 : ∀ {b1 b2 : Bool}, N.role.active = b1 → N'.role.active = b2 → (b1 = true ∨ b2 = false ∨ ¬ W.events.length < 1000) → (if N.role.active = false ∧ N'.role.active = true ∧ W.events.length < 1000 then W.events ++ [(n, N'.role.epoch)] else W.events) = W.events := fun h1 h2 h3 => if_neg (by
        rw [h1, h2]
        rintro ⟨rfl, rfl, h4⟩
        rcases h3 with h3 | h3 | h3
        · cases h3
        · cases h3
        · exact h3 h4)
      have hev1 : N.role.active = false → N'.role.active = true → W.events.length < 1000 → (if N.role.active = false ∧ N'.role.active = true ∧ W.events.length < 1000 then W.events ++ [(n, N'.role.epoch)] else W.events) = W.events ++ [(n, N'.role.epoch)] := fun h1 h2 h3 => if_pos ⟨h1, h2, h3⟩
      replace hS : St w S w4 (tickH (X.with X.fa X.fc X.vs X.ea X.ec) (W.with W.fly W.events) (X.side n) (X.side (1 - n)) N' B' (W.side (1 - n)) a c x y l) := hS
      generalize hev : (if N.role.active = false ∧ N'.role.active = true ∧ W.events.length < 1000 then W.events ++ [(n, N'.role.epoch)] else W.events) = ev
      cases ha : N.role.active
      · (conv => whnf)
        refine hS.ld 1 rfl (v := .pointer (some ⟨(X.side n).A.n, 0, none⟩)) rfl ?_
        (conv => whnf)
        refine hS.ld 7 rfl rfl ?_
        (conv => whnf)
        refine (role_active (hS.blk 8 rfl)).mono ?_
        rintro v w5 ⟨rfl, rfl⟩
        cases ha2 : N'.role.active
        · rw [← hev.symm.trans (hev0 ha ha2 (.inr (.inl rfl)))] at hS
          generalize X.ea = ea at hS
          generalize X.ec = ec at hS
          clear hev hev0 hev1 ha ha2
          (conv => whnf)
          refine tickLoop (ea := ea) (ec := ec) (ev := ev) ⟨rfl, rfl, rfl, rfl, trivial⟩ hS hflen hshort hll hnl hcell hfew ?_
          rintro σ w6 ⟨fa, fc, vs, hS⟩
          rw [flyK_end hnl] at hS
          repeat' ((conv => whnf); first | refine RetC.mk ?_ | refine NzC.mk (by decide) ?_ | refine RngC.mk (by omega) (by omega) ?_ | refine IdxC.mk (by omega) (by omega) ?_ | refine brD (fun _ => ?_) (fun _ => ?_) | refine brND (fun _ => ?_) (fun _ => ?_) | refine brN (fun _ => ?_) (fun _ => ?_) | refine brI (fun _ => ?_) (fun _ => ?_))
          exact ⟨rfl, hU2 (s := ⟨some N', B'⟩) (hS.keep 15)⟩
        · (conv => whnf)
          refine hS.ld 0 rfl rfl ?_
          (conv => whnf)
          refine brD (fun h5 => ?_) (fun h5 => ?_)
          · have hv := hev.symm.trans (hev1 ha ha2 (by exact Int.ofNat_lt.1 h5))
            have hvl : ev.length = W.events.length + 1 := by rw [hv, List.length_append]; rfl
            (conv => whnf)
            refine drawT tabOk mixed [4] (evT X W) (.take 0 (.take 1 (.take 2 (.take 3 (.take 5 (.take 6 (.take 7 (.take 8 (.take 9 (.take 10 (.take 11 (.take 12 (.alt 4 (.alt 13 (.take 14 (.alt 15 (.alt 16 (.take 17 (.take 18 (.alt 19 .fin .fin))) .fin) .fin)) .fin) (.alt 13 (.take 14 (.alt 4 (.alt 15 (.alt 16 (.take 17 (.take 18 (.alt 19 .fin .fin))) .fin) .fin) (.alt 15 (.alt 4 (.alt 16 (.take 17 (.take 18 (.alt 19 .fin .fin))) .fin) .fin) .fin))) .fin)))))))))))))) (by kernel_rfl) ?_
            rintro w6 rfl
            replace hS := hS.drew
            have hK := hS.ref (evT X W)
            have hn1 := hS.ne 1 0 rfl rfl (by decide)
            have hn7 := hS.ne 7 0 rfl rfl (by decide)
            have hm1 : (X.side n).s ∉ (ownL 74 2 encEv (.slice X.ea W.events.length X.ec) W.events).foot := hS.apartAt 1 6 rfl rfl (by decide) _ (List.mem_singleton.2 rfl)
            have hm7 : (X.side n).A.n ∉ (ownL 74 2 encEv (.slice X.ea W.events.length X.ec) W.events).foot := hS.apartAt 7 6 rfl rfl (by decide) _ (List.mem_singleton.2 rfl)
            repeat' ((conv => whnf); first | refine RetC.mk ?_ | refine NzC.mk (by decide) ?_ | refine RngC.mk (by omega) (by omega) ?_ | refine IdxC.mk (by omega) (by omega) ?_ | refine hS.ld 0 rfl rfl (KeepC.mk hK ?_) | refine hS.ldF 1 rfl (v := .pointer (some ⟨(X.side n).A.n, 0, none⟩)) rfl (fun h => h.elim hn1 hm1) ?_ | refine hS.ldF 7 rfl rfl (fun h => h.elim hn7 hm7) ?_ | (refine (role_epoch (hS.blk 8 rfl)).mono ?_; rintro v w7 ⟨rfl, rfl⟩; refine KeepC.mk hK ?_) | (refine hS.litX Tryd.underlying46 (sz := 2) (by kernel_rfl) (z := .agg (encEv (0, 0)).toArray) (by kernel_rfl) rfl rfl (cs := encEv (n, N'.role.epoch)) (by rfl) (fun b9 w8 hb9 hx hS => ?_); replace hK := hK.trans hx.of_no; clear hx; refine KeepC.mk hK ?_) | (refine hS.appX codEv 6 (ys := [(n, N'.role.epoch)]) (G := fun _ => True) Tryd.underlying46 (bytes := 16) (by kernel_rfl) (z := .agg (encEv (0, 0)).toArray) (by kernel_rfl) rfl rfl (Slc.of_blk codEv (hS.blk 17 rfl) rfl (by simp) (fun _ _ => trivial) rfl) (by show W.events.length + 1 ≤ _; unfold maxLen; omega) (by show (W.events.length + 1) * 16 ≤ _; omega) (fun ea ec w9 hx hS => ?_); replace hK := hK.trans (hx.mono fun d hd => .inr (foot_own hd)); clear hx; refine KeepC.mk hK ?_) | (refine hS.stK hK 0 rfl (by exact Nat.le_of_ble_eq_true rfl) rfl (.inl rfl) (fun w' hK hS => KeepC.mk hK ?_)) | refine And.intro ?_ ?_ | refine brD (fun _ => ?_) (fun _ => ?_) | refine brND (fun _ => ?_) (fun _ => ?_) | refine brN (fun _ => ?_) (fun _ => ?_) | refine brI (fun _ => ?_) (fun _ => ?_))
            all_goals
              replace hS := hS.keep 17
              replace hS := hS.as (H' := tickH (X.with X.fa X.fc X.vs ea ec) (W.with W.fly (W.events ++ [(n, N'.role.epoch)])) (X.side n) (X.side (1 - n)) N' B' (W.side (1 - n)) a c x y l) (by
                rw [show (W.with W.fly W.events).events.length + 1 = (W.events ++ [(n, N'.role.epoch)]).length by rw [List.length_append]; rfl]
                rfl)
              rw [← hv] at hS
              clear hev hev0 hev1 ha ha2 hK
              refine tickLoop (ea := ea) (ec := ec) (ev := ev) ⟨rfl, rfl, rfl, rfl, trivial⟩ hS hflen hshort hll hnl hcell hfew ?_
              rintro σ w6 ⟨fa, fc, vs, hS⟩
              rw [flyK_end hnl] at hS
              repeat' ((conv => whnf); first | refine RetC.mk ?_ | refine NzC.mk (by decide) ?_ | refine RngC.mk (by omega) (by omega) ?_ | refine IdxC.mk (by omega) (by omega) ?_ | refine brD (fun _ => ?_) (fun _ => ?_) | refine brND (fun _ => ?_) (fun _ => ?_) | refine brN (fun _ => ?_) (fun _ => ?_) | refine brI (fun _ => ?_) (fun _ => ?_))
              exact ⟨rfl, hU2 (s := ⟨some N', B'⟩) (hS.keep 15)⟩
          · rw [← hev.symm.trans (hev0 ha ha2 (.inr (.inr fun h => h5 (by exact Int.ofNat_lt.2 h))))] at hS
            generalize X.ea = ea at hS
            generalize X.ec = ec at hS
            clear hev hev0 hev1 ha ha2
            (conv => whnf)
            refine tickLoop (ea := ea) (ec := ec) (ev := ev) ⟨rfl, rfl, rfl, rfl, trivial⟩ hS hflen hshort hll hnl hcell hfew ?_
            rintro σ w6 ⟨fa, fc, vs, hS⟩
            rw [flyK_end hnl] at hS
            repeat' ((conv => whnf); first | refine RetC.mk ?_ | refine NzC.mk (by decide) ?_ | refine RngC.mk (by omega) (by omega) ?_ | refine IdxC.mk (by omega) (by omega) ?_ | refine brD (fun _ => ?_) (fun _ => ?_) | refine brND (fun _ => ?_) (fun _ => ?_) | refine brN (fun _ => ?_) (fun _ => ?_) | refine brI (fun _ => ?_) (fun _ => ?_))
            exact ⟨rfl, hU2 (s := ⟨some N', B'⟩) (hS.keep 15)⟩
      · rw [← hev.symm.trans (hev0 ha rfl (.inl rfl))] at hS
        generalize X.ea = ea at hS
        generalize X.ec = ec at hS
        clear hev hev0 hev1 ha
        (conv => whnf)
        refine tickLoop (ea := ea) (ec := ec) (ev := ev) ⟨rfl, rfl, rfl, rfl, trivial⟩ hS hflen hshort hll hnl hcell hfew ?_
        rintro σ w6 ⟨fa, fc, vs, hS⟩
        rw [flyK_end hnl] at hS
        repeat' ((conv => whnf); first | refine RetC.mk ?_ | refine NzC.mk (by decide) ?_ | refine RngC.mk (by omega) (by omega) ?_ | refine IdxC.mk (by omega) (by omega) ?_ | refine brD (fun _ => ?_) (fun _ => ?_) | refine brND (fun _ => ?_) (fun _ => ?_) | refine brN (fun _ => ?_) (fun _ => ?_) | refine brI (fun _ => ?_) (fun _ => ?_))
        exact ⟨rfl, hU2 (s := ⟨some N', B'⟩) (hS.keep 15)⟩
end
end Go.Proofs.YtoaghhcjlfiflaaDoor

namespace Go.Proofs.YtoaghhcjlfiflaaDoor
open Go Ev
section
variable {w w' : World} {X : WorldA} {W : WorldS} {E : Nat → Addr} {q m : Nat}
def bornCells (s0 s1 : Option Addr) (a : Option Addr) (n c : Nat) : List Value := [.pointer s0, .pointer s1, .slice a n c, .slice none 0 0, .int .i64 (-1), .int .i64 0, .slice none 0 0]
def madeH (bw : Nat) (a : Option Addr) (c : Nat) (xs : List RuleS) (N : Int → NodeS) (B : Int → BytS) (Y Z : SideA) : Nat → List Ent
  | 0 => [blk bw 53 (bornCells none none a xs.length c), ownL 32 5 encRule (.slice a xs.length c) xs]
  | 1 => [blk bw 53 (bornCells (some ⟨Y.s, 0, none⟩) none a xs.length c), ownL 32 5 encRule (.slice a xs.length c) xs, blk Y.s 60 [.pointer (some ⟨Y.A.n, 0, none⟩), .pointer (some ⟨Y.A.b, 0, none⟩)]] ++ nodeB Y.A (N 0) (B 0)
  | _ => [blk bw 53 (bornCells (some ⟨Y.s, 0, none⟩) (some ⟨Z.s, 0, none⟩) a xs.length c), ownL 32 5 encRule (.slice a xs.length c) xs, blk Y.s 60 [.pointer (some ⟨Y.A.n, 0, none⟩), .pointer (some ⟨Y.A.b, 0, none⟩)], blk Z.s 60 [.pointer (some ⟨Z.A.n, 0, none⟩), .pointer (some ⟨Z.A.b, 0, none⟩)]] ++ (nodeB Y.A (N 0) (B 0) ++ nodeB Z.A (N 1) (B 1))
theorem wnew_ok {G : RuleS → Prop} {a : Option Addr} {n c : Nat} {xs : List RuleS} (hx : Slc w 5 encRule G a n xs) (hn : n ≤ 1000) (hE : Errs w E q insErrs) (hq : q ≤ w.heap.size) (h0 : (faultL xs).1 = 0) :
    CallC Tryd.prog 5 #[.slice a n c] w fun v w' => ∃ X, v = .tuple #[.pointer (some ⟨X.w, 0, none⟩), .nilIface] ∧ Ext No w w' ∧ Stands E q 0 w' X (.born xs) ∧ ∀ b, inF (worldH X (.born xs)) b → w.heap.size ≤ b := by
  obtain ⟨hb0, hb1, hok⟩ := WOk.born (fault_good.1 h0)
  have hl := hx.len
  have hby : BOk by0 := ⟨by simp [by0], by decide, by decide⟩
  refine fn_intro tabOk Tryd.func5 (by kernel_rfl) rfl Tryd.ntmps5 (Nat.le_of_ble_eq_true rfl) ?_
  have hS := St.start w No
  (conv => whnf)
  refine (rcheck_ok hx (hE.sub rfl)).mono ?_
  rintro v w1 ⟨hF, hx1⟩
  obtain rfl : v = .nilIface := by
    rw [h0] at hF
    rcases hF with ⟨_, h⟩ | ⟨_, h, _⟩
    · exact h
    · exact absurd h (by decide)
  clear hF
  replace hS := hS.no hx1
  (conv => whnf)
  refine (rclone_ok (hx.no hS.ext) hn).mono ?_
  rintro v w2 ⟨a2, c2, rfl, hx2, ho, hf⟩
  replace hS := hS.made hx2 ownL_local ho (fun g hg => hf g (by simpa [ownL, own] using hg))
  clear hx1 hx2 ho hf
  (conv => whnf)
  refine hS.new (fun bw w3 hbw hS => ?_)
  replace hS := hS.sel [1, 0] (by decide)
  rw [← hl] at hS
  replace hS : St w No w3 (madeH bw a2 c2 xs (fun i => (newN i by0 xs).2.1) (fun i => (newN i by0 xs).2.2) ⟨0, ⟨0, 0, 0, 0, 0, 0, 0, none, 0⟩⟩ ⟨0, ⟨0, 0, 0, 0, 0, 0, 0, none, 0⟩⟩ 0) := hS
  generalize hNf : (fun i => (newN i by0 xs).2.1) = N at hS
  generalize hBf : (fun i => (newN i by0 xs).2.2) = B at hS
  have e0 : N 0 = (newN 0 by0 xs).2.1 ∧ B 0 = (newN 0 by0 xs).2.2 ∧ N 1 = (newN 1 by0 xs).2.1 ∧ B 1 = (newN 1 by0 xs).2.2 := by subst hNf hBf; exact ⟨rfl, rfl, rfl, rfl⟩
  have hbn : WorldS.born xs = ⟨⟨some (N 0), B 0⟩, ⟨some (N 1), B 1⟩, xs, [], -1, 0, []⟩ := by subst hNf hBf; rfl
  rw [hbn] at hok ⊢
  clear hNf hBf hbn
  have hsrc : ∀ {b : Nat}, w.heap.size ≤ b → 0 < n → ∀ b0 o0, a = some ⟨b0, o0, none⟩ → b0 ≠ b := fun hb h1 b0 o0 h2 => by
    obtain ⟨b1, o1, x, _, _, h3, h4, _⟩ := hx.at h1
    rw [h2] at h3
    simp only [Option.some.injEq, Addr.mk.injEq] at h3
    obtain ⟨rfl, _⟩ := h3
    omega
  (conv => whnf)
  refine loopR tabOk (fun σ w' q' => ∃ (k : Nat) (Y Z : SideA), σ = [(19, .int .i64 k), (5, .pointer (some ⟨bw, 0, none⟩)), (0, .slice a n c)] ∧ q' = 2 - k ∧ k ≤ 2 ∧ St w No w' (madeH bw a2 c2 xs N B Y Z k))
    (σ' := [(19, .int .i64 ((0 : Nat) : Int)), (5, .pointer (some ⟨bw, 0, none⟩)), (0, .slice a n c)]) (n := 2) ⟨rfl, rfl, rfl, trivial⟩ ⟨0, _, _, rfl, rfl, Nat.zero_le _, hS⟩ ?_
  clear hS
  rintro _ w4 q' ⟨k, Y, Z, rfl, rfl, hk, hS⟩
  (conv => whnf)
  refine brD (fun h3 => ?_) (fun h3 => ?_)
  · have hk2 : k = 0 ∨ k = 1 := by omega
    rcases hk2 with rfl | rfl
    · have hsz := hS.ext.size
      (conv => whnf)
      refine (newBytes_ok _).mono ?_
      rintro v w5 ⟨bb, rfl, hbb, hxb, hB⟩
      replace hS := hS.made hxb (blk_local _ _ _) hB (by simp [blk]; exact ⟨hbb, hB.lt⟩)
      have hwb : w.heap.size ≤ bb := Nat.le_trans hsz hbb
      clear hxb hB
      (conv => whnf)
      refine (nnew_ok 0 (.inl rfl) (hx.no hS.ext) hn h0 (hsrc hwb) (hS.blk 2 rfl) hby rfl ((hE.ext hS.ext fun _ h => h.elim).sub rfl) (Nat.le_trans hq hwb)).mono ?_
      rintro v w6 hnew
      rcases hnew with ⟨_, A, hAb, rfl, hk6⟩ | ⟨h9, _⟩
      case inr => exact absurd hb0 h9
      rw [← e0.1, ← e0.2.1] at hk6
      have hS2 := St.callAt (A := [_, _]) (B := []) hS hk6
      subst hAb
      (conv => whnf)
      refine hS2.new (fun bs w7 hbs hS => ?_)
      (conv => whnf)
      refine IdxC.mk (by decide) (by decide) ?_
      (conv => whnf)
      refine hS.st 0 rfl (Nat.le_of_ble_eq_true rfl) rfl (fun w8 hS => ?_)
      (conv => whnf)
      refine RngC.mk (by omega) (by omega) ?_
      (conv => whnf)
      refine LoopE.mk ⟨_, [(19, .int .i64 ((1 : Nat) : Int)), (5, _), (0, _)], ?_, ⟨rfl, rfl, rfl, trivial⟩, ⟨1, ⟨bs, A⟩, Z, rfl, rfl, by omega, hS.sel [0, 1, 10, 2, 3, 4, 5, 6, 7, 8, 9] (by decide)⟩⟩
      omega
    · have hsz := hS.ext.size
      (conv => whnf)
      refine (newBytes_ok _).mono ?_
      rintro v w5 ⟨bb, rfl, hbb, hxb, hB⟩
      replace hS := hS.made hxb (blk_local _ _ _) hB (by simp [blk]; exact ⟨hbb, hB.lt⟩)
      have hwb : w.heap.size ≤ bb := Nat.le_trans hsz hbb
      clear hxb hB
      (conv => whnf)
      refine (nnew_ok 1 (.inr rfl) (hx.no hS.ext) hn h0 (hsrc hwb) (hS.blk 11 rfl) hby rfl ((hE.ext hS.ext fun _ h => h.elim).sub rfl) (Nat.le_trans hq hwb)).mono ?_
      rintro v w6 hnew
      rcases hnew with ⟨_, A, hAb, rfl, hk6⟩ | ⟨h9, _⟩
      case inr => exact absurd hb1 h9
      rw [← e0.2.2.1, ← e0.2.2.2] at hk6
      have hS2 := St.callAt (A := [_, _, _, _, _, _, _, _, _, _, _]) (B := []) hS hk6
      subst hAb
      (conv => whnf)
      refine hS2.new (fun bs w7 hbs hS => ?_)
      (conv => whnf)
      refine IdxC.mk (by decide) (by decide) ?_
      (conv => whnf)
      refine hS.st 0 rfl (Nat.le_of_ble_eq_true rfl) rfl (fun w8 hS => ?_)
      (conv => whnf)
      refine RngC.mk (by omega) (by omega) ?_
      (conv => whnf)
      refine LoopE.mk ⟨_, [(19, .int .i64 ((2 : Nat) : Int)), (5, _), (0, _)], ?_, ⟨rfl, rfl, rfl, trivial⟩, ⟨2, Y, ⟨bs, A⟩, rfl, rfl, by omega, hS.sel [0, 1, 2, 19, 3, 4, 5, 6, 7, 8, 9, 10, 11, 12, 13, 14, 15, 16, 17, 18] (by decide)⟩⟩
      omega
  · obtain rfl : k = 2 := by omega
    have hS2 := (((hS.addNil 77 5 encNV).add (e := cellsE [] []) cellsE_local (cellsE_nil _) (fun b hb => by simp [cellsE] at hb) (fun f _ b _ hb => by simp [cellsE] at hb)).addNil 74 2 encEv).sel [0, 2, 3, 1, 20, 21, 22, 4, 5, 6, 7, 8, 9, 10, 11, 12, 13, 14, 15, 16, 17, 18, 19] (by decide)
    replace hS2 : St w No w4 (worldH ⟨bw, Y, Z, a2, c2, none, 0, [], none, 0⟩ ⟨⟨some (N 0), B 0⟩, ⟨some (N 1), B 1⟩, xs, [], -1, 0, []⟩) := hS2
    have hfr : ∀ b, inF (worldH ⟨bw, Y, Z, a2, c2, none, 0, [], none, 0⟩ ⟨⟨some (N 0), B 0⟩, ⟨some (N 1), B 1⟩, xs, [], -1, 0, []⟩) b → w.heap.size ≤ b := fun b ⟨e, he, hb⟩ => (hS2.may e he b hb).1.elim (fun h => h.elim) id
    repeat' ((conv => whnf); first | refine RetC.mk ?_ | refine NzC.mk (by decide) ?_ | refine RngC.mk (by omega) (by omega) ?_ | refine IdxC.mk (by omega) (by omega) ?_ | refine brD (fun _ => ?_) (fun _ => ?_) | refine brND (fun _ => ?_) (fun _ => ?_) | refine brN (fun _ => ?_) (fun _ => ?_) | refine brI (fun _ => ?_) (fun _ => ?_))
    exact ⟨⟨bw, Y, Z, a2, c2, none, 0, [], none, 0⟩, rfl, hS2.ext, ⟨hS2.has, hok, hE.ext hS2.ext fun _ h => h.elim, fun b hb => Nat.le_trans hq (hfr b hb)⟩, hfr⟩
end
end Go.Proofs.YtoaghhcjlfiflaaDoor

namespace Go.Proofs.YtoaghhcjlfiflaaDoor
open Go Ev
section
variable {w w' : World} {X : WorldA} {W : WorldS} {E : Nat → Addr} {q m : Nat}
end
end Go.Proofs.YtoaghhcjlfiflaaDoor

namespace Go.Proofs.YtoaghhcjlfiflaaDoor
open Go Ev
section
variable {w w' : World} {X : WorldA} {W : WorldS} {E : Nat → Addr} {q m : Nat}
set_option maxHeartbeats 4000000 in
set_option maxRecDepth 10000 in
end
end Go.Proofs.YtoaghhcjlfiflaaDoor

namespace Go.Proofs.YtoaghhcjlfiflaaDoor
open Go Ev
section
variable {w w' : World} {X : WorldA} {W : WorldS} {E : Nat → Addr} {q m : Nat}
end
end Go.Proofs.YtoaghhcjlfiflaaDoor

namespace Go.Proofs.YtoaghhcjlfiflaaDoor
open Go Ev
theorem setSide_fly (W : WorldS) (n : Int) (s : SideS) : (W.setSide n s).fly = W.fly := by
  unfold WorldS.setSide
  split <;> rfl
theorem got_fly (W : WorldS) (x : NoteS) : (W.got x).fly = W.fly := by
  unfold WorldS.got
  repeat' split
  all_goals first | rfl | exact setSide_fly _ _ _
theorem deliver_none {W : WorldS} (h : W.fly.length = 0) : W.deliver 0 = (4, W) := by
  have ha : W.at_ 0 = 4 := by unfold WorldS.at_; rw [if_pos (by omega)]
  unfold WorldS.deliver
  rw [if_pos (by rw [ha]; decide), ha]
section
variable {w w' : World} {X : WorldA} {W : WorldS} {E : Nat → Addr} {q m : Nat}
end
end Go.Proofs.YtoaghhcjlfiflaaDoor

namespace Go.Proofs.YtoaghhcjlfiflaaDoor
open Go Ev
structure Nd (n : Int) (k : Nat) (ep sil : Int) (act : Bool) (c l lo : Nat) (N : NodeS) (B : BytS) : Prop where
  id : N.id = n
  now : N.now = (k : Int)
  role : N.role = ⟨n, ep, sil, act⟩
  tab : N.tab.cells = emptyCells
  mir : N.mir.cells = emptyCells
  ml : N.mir.life ≤ lo
  pow : Pow B
  cell : openS B.data = N.cell
  num : N.cell.num ≤ c
  li : N.cell.li = l
  l1 : 1 ≤ l ∧ l ≤ 1000
  cep : (N.cell.ep : Int) ≤ ep
  e0 : 0 ≤ ep ∧ ep ≤ 2 * (c : Int)
  cur : N.tel.cursor < 32
section
variable {n : Int} {k c l lo : Nat} {ep sil : Int} {N : NodeS} {B : BytS}
theorem tick_idle (ha : N.role = ⟨n, ep, sil, false⟩) (hk : N.now < 1099511627776) (hs : sil + 1 ≤ 9) :
    N.tick B = (0, [], { N with now := N.now + 1, tab := N.tab.expire (N.now + 1), role := ⟨n, ep, sil + 1, false⟩ }, B) := by
  have hrt : N.role.tick = (false, ⟨n, ep, sil + 1, false⟩) := by
    rw [ha]
    unfold RoleS.tick
    rw [if_neg (by simp)]
    dsimp only
    rw [decide_eq_false (by omega)]
  have hst : N.step = (false, { N with now := N.now + 1, tab := N.tab.expire (N.now + 1), role := ⟨n, ep, sil + 1, false⟩ }) := by
    unfold NodeS.step
    rw [hrt]
  have hb : N.step.2.beat = false := by
    rw [hst]
    rfl
  unfold NodeS.tick
  rw [if_neg (by omega), if_neg (by rw [hst]; simp), notes_ff hb, hst]
theorem tick_rest (ha : N.role = ⟨n, ep, sil, true⟩) (hk : N.now < 1099511627776) (hm : (N.now + 1).tmod 3 ≠ 0) :
    N.tick B = (0, [], { N with now := N.now + 1, tab := N.tab.expire (N.now + 1) }, B) := by
  have hrt : N.role.tick = (false, N.role) := by
    unfold RoleS.tick
    rw [if_pos (by rw [ha])]
  have hst : N.step = (false, { N with now := N.now + 1, tab := N.tab.expire (N.now + 1) }) := by
    unfold NodeS.step
    rw [hrt]
  have hb : N.step.2.beat = false := by
    rw [hst]
    unfold NodeS.beat
    dsimp only
    rw [decide_eq_false hm, Bool.and_false]
  unfold NodeS.tick
  rw [if_neg (by omega), if_neg (by rw [hst]; simp), notes_ff hb, hst]
theorem tick_beat (ha : N.role = ⟨n, ep, sil, true⟩) (hk : N.now < 1099511627776) (hm : (N.now + 1).tmod 3 = 0) :
    N.tick B = (0, [⟨N.id, N.cell.li, ep, true, []⟩, ⟨N.id, N.cell.li, ep, false, outC (N.tab.expire (N.now + 1)).cells (N.tel.picks (N.tab.expire (N.now + 1)).cells)⟩], { N with now := N.now + 1, tab := N.tab.expire (N.now + 1), tel := N.tel.next (N.tab.expire (N.now + 1)).cells }, B) := by
  have hrt : N.role.tick = (false, N.role) := by
    unfold RoleS.tick
    rw [if_pos (by rw [ha])]
  have hst : N.step = (false, { N with now := N.now + 1, tab := N.tab.expire (N.now + 1) }) := by
    unfold NodeS.step
    rw [hrt]
  have hb : N.step.2.beat = true := by
    rw [hst]
    unfold NodeS.beat
    dsimp only
    rw [ha, decide_eq_true hm]
    rfl
  unfold NodeS.tick
  rw [if_neg (by omega), if_neg (by rw [hst]; simp), notes_t hb, hst]
  dsimp only
  rw [ha]
theorem tick_claim (ha : N.role = ⟨n, ep, sil, false⟩) (hk : N.now < 1099511627776) (hs : sil + 1 > 9) (hm : (N.now + 1).tmod 3 ≠ 0) (hP : Pow B) (hc : openS B.data = N.cell) (h0 : 0 ≤ ep) (h1 : ep + 2 ≤ 1073741824) (hcp : (N.cell.ep : Int) ≤ ep) (hnum : N.cell.num + 1 < 4294967296) (hli : N.cell.li ≤ 1073741824) :
    ∃ (e : Nat) (B' : BytS), ep < e ∧ (e : Int) ≤ ep + 2 ∧ Pow B' ∧ openS B'.data = ⟨N.cell.num + 1, e, N.cell.li, false⟩ ∧
      N.tick B = (0, [⟨N.id, N.cell.li, (e : Int), true, []⟩], { N with now := N.now + 1, tab := putAll (N.now + 1) (N.tab.expire (N.now + 1)) (flowsOf N.mir.cells), role := ⟨n, e, sil + 1, true⟩, cell := ⟨N.cell.num + 1, e, N.cell.li, false⟩ }, B') ∧ (⟨n, ep, sil + 1, false⟩ : RoleS).next = ((e : Int), 0) := by
  have hrt : N.role.tick = (true, ⟨n, ep, sil + 1, false⟩) := by
    rw [ha]
    unfold RoleS.tick
    rw [if_neg (by simp)]
    dsimp only
    rw [decide_eq_true (by omega)]
  have hst : N.step = (true, { N with now := N.now + 1, tab := N.tab.expire (N.now + 1), role := ⟨n, ep, sil + 1, false⟩ }) := by
    unfold NodeS.step
    rw [hrt]
  obtain ⟨e, hnx, he1, he2⟩ := next_pow (r := ⟨n, ep, sil + 1, false⟩) h0 h1
  dsimp only at he1 he2
  obtain ⟨p1, p2, p3, p4⟩ := put_pow (e := e) (l := N.cell.li) hP hc hnum (by omega) (by omega)
  refine ⟨e, (N.cell.put B e N.cell.li).2.1, he1, he2, p2, p3.trans p4, ?_, hnx⟩
  have hcl : N.step.2.claim B = ((true, 0), { N with now := N.now + 1, tab := putAll (N.now + 1) (N.tab.expire (N.now + 1)) (flowsOf N.mir.cells), role := ⟨n, e, sil + 1, true⟩, cell := ⟨N.cell.num + 1, e, N.cell.li, false⟩ }, (N.cell.put B e N.cell.li).2.1) := by
    rw [hst]
    unfold NodeS.claim
    dsimp only
    rw [hnx]
    dsimp only
    rw [if_neg (by simp), if_neg (fun h => h p1)]
    have hr := RoleS.claim_next (r := ⟨n, ep, sil + 1, false⟩) rfl (by rw [hnx])
    rw [hnx] at hr
    dsimp only at hr
    rw [hr, p4]
  have hb : (N.step.2.claim B).2.1.beat = false := by
    rw [hcl]
    unfold NodeS.beat
    dsimp only
    rw [decide_eq_false hm]
    rfl
  unfold NodeS.tick
  rw [if_neg (by omega), if_pos (by rw [hst]), if_neg (by rw [hcl]; simp), show (N.step.2.claim B).1.1 = true by rw [hcl], notes_tf hb, hcl]
theorem expire_no {T : MirS} (h : T.cells = emptyCells) (t : Int) : (T.expire t).cells = emptyCells := by
  show expCells t 32 T.cells = _
  rw [h, exp_empty]
theorem hear_up {r : RoleS} {e : Int} (h0 : 0 ≤ e ∧ e ≤ 1073741824) (g : e > r.epoch) : (r.hear e).2 = ⟨r.node, e, 0, false⟩ := by
  unfold RoleS.hear
  rw [if_neg (by omega)]
  simp [g]
end

def WorldS.dl (W : WorldS) : Nat → WorldS
  | 0 => W
  | k + 1 => ((W.dl k).deliver 0).2
section
variable {W : WorldS} {n : Int} {N M N' : NodeS} {B C B' : BytS} {t e : Int} {x y : NoteS}
theorem dl_next (W : WorldS) : ∀ k : Nat, W.dl (k + 1) = (W.deliver 0).2.dl k
  | 0 => rfl
  | k + 1 => by
    show ((W.dl (k + 1)).deliver 0).2 = (((W.deliver 0).2.dl k).deliver 0).2
    rw [dl_next W k]
theorem dl_nil (h : W.fly = []) (k : Nat) : W.dl k = W := by
  induction k with
  | zero => rfl
  | succ k ih =>
    show ((W.dl k).deliver 0).2 = W
    rw [ih, deliver_none (by rw [h]; rfl)]
theorem deliver_cons {r : List NoteS} (h : W.fly = x :: r) : (W.deliver 0).2 = (W.off 0).got x ∧ ((W.off 0).got x).fly = r := by
  unfold WorldS.deliver WorldS.at_
  rw [h, if_neg (by simp)]
  refine ⟨rfl, ?_⟩
  rw [got_fly]
  show W.fly.eraseIdx _ = r
  rw [h]
  rfl
structure Pr (n : Int) (W : WorldS) (N M : NodeS) (B C : BytS) (t e : Int) : Prop where
  fly : W.fly = []
  x : W.side n = ⟨some N, B⟩
  y : W.side (1 - n) = ⟨some M, C⟩
  to : W.to = t
  ep : W.epoch = e
theorem sides_set (hn : n = 0 ∨ n = 1) (W : WorldS) (s : SideS) : (W.setSide n s).side n = s ∧ (W.setSide n s).side (1 - n) = W.side (1 - n) ∧ (W.setSide n s).to = W.to ∧ (W.setSide n s).epoch = W.epoch ∧ (W.setSide n s).fly = W.fly := by
  rcases hn with rfl | rfl <;> exact ⟨rfl, rfl, rfl, rfl, rfl⟩
end
end Go.Proofs.YtoaghhcjlfiflaaDoor

namespace Go.Proofs.YtoaghhcjlfiflaaDoor
open Go Ev

section
variable {n : Nat} {T : MirS} {K : Nat → Prop} {M : List CellS}
end
end Go.Proofs.YtoaghhcjlfiflaaDoor

namespace Go.Proofs.YtoaghhcjlfiflaaDoor
open Go Ev
def Und (c d : CellS) : Prop := c.slot = d.slot ∧ c.ver ≤ d.ver ∧ (c.ver = d.ver → c = d)
structure Under (l T : List CellS) : Prop where
  len : l.length = 32
  at_ : ∀ s : Nat, s < 32 → ∃ c d, l[s]? = some c ∧ T[s]? = some d ∧ Und c d
def CellU (c : CellS) (T : List CellS) : Prop := ∃ i : Nat, i < 32 ∧ c.slot = i ∧ ∃ d, T[i]? = some d ∧ Und c d
theorem Und.refl (c : CellS) : Und c c := ⟨rfl, Int.le_refl _, fun _ => rfl⟩
section
variable {l T U : List CellS} {c : CellS}
theorem Under.put1 (h : Under l T) (hc : CellU c T) : Under (put1C l c) T := by
  obtain ⟨i, hi, hs, d, hd, hu⟩ := hc
  obtain ⟨b, d', hb, hd', hbd⟩ := h.at_ i hi
  unfold put1C
  rw [hs, Int.toNat_natCast, hb]
  dsimp only
  split
  · refine ⟨by rw [List.length_set]; exact h.len, fun s hs => ?_⟩
    by_cases hsi : s = i
    · subst hsi
      exact ⟨c, d, List.getElem?_set_self (by rw [h.len]; exact hi), hd, hu⟩
    · rw [List.getElem?_set_ne (Ne.symm hsi)]
      exact h.at_ s hs
  · exact h
theorem Under.fold : ∀ (xs : List CellS) {l : List CellS}, Under l T → (∀ c ∈ xs, CellU c T) → Under (xs.foldl put1C l) T
  | [], _, h, _ => h
  | x :: xs, _, h, hx => Under.fold xs (h.put1 (hx x List.mem_cons_self)) fun c hc => hx c (List.mem_cons_of_mem _ hc)
def Gots (l T : List CellS) (K : Nat → Prop) : Prop := ∀ k : Nat, k < 32 → K k → l[k]? = T[k]?
theorem Gots.put {K : Nat → Prop} (g : Gots l T K) (h : Under l T) {k : Nat} (hk : k < 32) (hT : T[k]? = some c) (hs : c.slot = k) : Gots (put1C l c) T (fun i => K i ∨ i = k) := by
  obtain ⟨b, d, hb, hd, hbd⟩ := h.at_ k hk
  obtain rfl := Option.some.inj (hT.symm.trans hd)
  unfold put1C
  rw [hs, Int.toNat_natCast, hb]
  dsimp only
  intro i hi hK
  split
  · by_cases hik : i = k
    · subst hik
      rw [List.getElem?_set_self (by rw [h.len]; exact hi), hT]
    · rw [List.getElem?_set_ne (Ne.symm hik)]
      exact g i hi (hK.resolve_right hik)
  · rename_i hv
    by_cases hik : i = k
    · subst hik
      rw [hb, hT, hbd.2.2 (by have := hbd.2.1; omega)]
    · exact g i hi (hK.resolve_right hik)
theorem Gots.puts (hs : ∀ (k : Nat) c, T[k]? = some c → c.slot = k) (hl : T.length = 32) : ∀ {p : List Nat} {K : Nat → Prop} {l : List CellS}, Gots l T K → Under l T → (∀ x ∈ p, x < 32) → Gots ((outC T p).foldl put1C l) T (fun i => K i ∨ i ∈ p)
  | [], K, l, g, _, _ => fun k hk hK => g k hk (hK.resolve_right (by simp))
  | x :: p, K, l, g, h, hp => by
    have hx := hp x List.mem_cons_self
    obtain ⟨c, hc⟩ : ∃ c, T[x]? = some c := ⟨_, List.getElem?_eq_getElem (by omega)⟩
    have h1 := g.put h hx hc (hs x c hc)
    have h2 := h.put1 (c := c) ⟨x, hx, hs x c hc, c, hc, Und.refl c⟩
    have h3 := Gots.puts hs hl h1 h2 (p := p) fun y hy => hp y (List.mem_cons_of_mem _ hy)
    show Gots ((outC T p).foldl put1C (put1C l (cellAt T x))) T _
    rw [cellAt_of hc]
    intro k hk hK
    refine h3 k hk ?_
    rcases hK with hK | hK
    · exact .inl (.inl hK)
    · rcases List.mem_cons.1 hK with rfl | hK
      · exact .inl (.inr rfl)
      · exact .inr hK
theorem Gots.full {K : Nat → Prop} (g : Gots l T K) (h1 : l.length = 32) (h2 : T.length = 32) (hK : ∀ k, k < 32 → K k) : l = T := by
  refine List.ext_getElem? fun s => ?_
  by_cases hs : s < 32
  · exact g s hs (hK s hs)
  · rw [List.getElem?_eq_none (by omega), List.getElem?_eq_none (by omega)]
end

def lif (s : SideS) : Int := ((openS s.byt.data).li : Int)
section
variable {n : Int} {sn sm s' : SideS} {fly : List NoteS}
end
section
variable {n : Int} {m : Nat} {W V : WorldS} {s : SideS}
end
end Go.Proofs.YtoaghhcjlfiflaaDoor

namespace Go.Proofs.YtoaghhcjlfiflaaDoor
open Go Ev
structure Flo (pr fa fp bs : Int) (Q : Int → Int → Prop) (d : Int × Int) (j : Nat) (f : FlowS) : Prop where
  proto : f.proto = pr
  ia : f.ia = d.1
  ip : f.ip = d.2
  fa : f.fa = fa
  fp : f.fp = fp
  port : f.port = bs + j
  st : Q f.state f.til
structure TabI (pr fa fp bs : Int) (Q : Int → Int → Prop) (ds : List (Int × Int)) (l : List CellS) : Prop where
  p0 : pr ≠ 0
  len : l.length = 32
  few : ds.length ≤ 8
  in_ : ∀ (j : Nat) d, ds[j]? = some d → ∃ v f, l[j]? = some ⟨(j : Int), v, f⟩ ∧ 1 ≤ v ∧ Flo pr fa fp bs Q d j f
  out : ∀ j : Nat, ds.length ≤ j → j < 32 → l[j]? = some ⟨(j : Int), 0, noFlow⟩
  nd : ds.Nodup
section
variable {pr fa fp bs : Int} {Q Q' : Int → Int → Prop} {ds : List (Int × Int)} {l : List CellS} {T : MirS} {a b : Int} {j : Nat}
theorem TabI.empty (h : pr ≠ 0) : TabI pr fa fp bs Q [] emptyCells := ⟨h, emptyCells_len, by simp, fun j d hd => by simp at hd, fun j _ hj => emptyCells_at hj, List.nodup_nil⟩
theorem TabI.cell (h : TabI pr fa fp bs Q ds l) {i : Nat} {c : CellS} (hc : l[i]? = some c) : (∃ d f v, ds[i]? = some d ∧ c = ⟨(i : Int), v, f⟩ ∧ 1 ≤ v ∧ Flo pr fa fp bs Q d i f) ∨ (ds.length ≤ i ∧ c = ⟨(i : Int), 0, noFlow⟩) := by
  by_cases hi : i < ds.length
  · obtain ⟨v, f, h1, h2, h3⟩ := h.in_ i _ (List.getElem?_eq_getElem hi)
    rw [hc] at h1
    exact .inl ⟨_, f, v, List.getElem?_eq_getElem hi, Option.some.inj h1, h2, h3⟩
  · have h32 : i < 32 := by rw [← h.len]; exact (List.getElem?_eq_some_iff.1 hc).1
    have := h.out i (by omega) h32
    rw [hc] at this
    exact .inr ⟨by omega, Option.some.inj this⟩
theorem idx_none {p : CellS → Bool} {xs : List CellS} (h : ∀ (i : Nat) c, xs[i]? = some c → p c = false) : idxI p xs 0 < 0 := by
  refine Int.not_le.1 fun h0 => ?_
  obtain ⟨j, c, hj, hp, _⟩ := idxI_spec p xs 0 h0
  rw [h j c hj] at hp
  cases hp
theorem there_no (p : FlowS → Bool) (i : Nat) (v : Int) : there p ⟨(i : Int), v, noFlow⟩ = false := by
  unfold there
  show (decide ((0 : Int) ≠ 0) && _) = false
  rw [decide_eq_false (by simp), Bool.false_and]
theorem TabI.find_in (h : TabI pr fa fp bs Q ds T.cells) (hd : ds[j]? = some (a, b)) : T.find pr a b fa fp = j := by
  obtain ⟨v, f, h1, _, h3⟩ := h.in_ j _ hd
  have hp : there (fitF pr a b fa fp) ⟨(j : Int), v, f⟩ = true := by
    unfold there fitF
    dsimp only
    rw [h3.proto, h3.ia, h3.ip, h3.fa, h3.fp]
    simp [h.p0]
  have := idxI_at (there (fitF pr a b fa fp)) T.cells 0 j _ h1 hp fun i y hi hy => by
    rcases h.cell hy with ⟨d, g, v, hdi, rfl, _, hf⟩ | ⟨_, rfl⟩
    · unfold there fitF
      dsimp only
      rw [hf.proto, hf.ia, hf.ip]
      have hne : ¬ (d.1 = a ∧ d.2 = b) := by
        rintro ⟨e1, e2⟩
        have hd2 : ds[i]? = some (a, b) := by rw [hdi, ← e1, ← e2]
        obtain ⟨hi2, e3⟩ := List.getElem?_eq_some_iff.1 hd2
        obtain ⟨hj2, e4⟩ := List.getElem?_eq_some_iff.1 hd
        exact List.pairwise_iff_getElem.1 h.nd i j hi2 hj2 hi (e3.trans e4.symm)
      rw [decide_eq_false hne]
      simp
    · exact there_no _ _ _
  unfold MirS.find
  rw [this]
  omega
theorem TabI.find_out (h : TabI pr fa fp bs Q ds T.cells) (hd : (a, b) ∉ ds) : T.find pr a b fa fp < 0 := by
  refine idx_none fun i c hc => ?_
  rcases h.cell hc with ⟨d, g, v, hdi, rfl, _, hf⟩ | ⟨_, rfl⟩
  · unfold there fitF
    dsimp only
    rw [hf.ia, hf.ip]
    have hne : ¬ (d.1 = a ∧ d.2 = b) := by
      rintro ⟨e1, e2⟩
      exact hd (List.mem_of_getElem? (i := i) (by rw [hdi, ← e1, ← e2]))
    rw [decide_eq_false hne]
    simp
  · exact there_no _ _ _
theorem TabI.back_in (h : TabI pr fa fp bs Q ds T.cells) (hj : j < ds.length) : T.back pr (bs + j) fa fp = j := by
  obtain ⟨v, f, h1, _, h3⟩ := h.in_ j _ (List.getElem?_eq_getElem hj)
  have hp : there (fitB pr (bs + j) fa fp) ⟨(j : Int), v, f⟩ = true := by
    unfold there fitB
    dsimp only
    rw [h3.proto, h3.port, h3.fa, h3.fp]
    simp [h.p0]
  have := idxI_at (there (fitB pr (bs + j) fa fp)) T.cells 0 j _ h1 hp fun i y hi hy => by
    rcases h.cell hy with ⟨d, g, v, hdi, rfl, _, hf⟩ | ⟨_, rfl⟩
    · unfold there fitB
      dsimp only
      rw [hf.port, decide_eq_false (show ¬ bs + (i : Int) = bs + j by omega)]
      simp
    · exact there_no _ _ _
  unfold MirS.back
  rw [this]
  omega
theorem TabI.back_out (h : TabI pr fa fp bs Q ds T.cells) {po : Int} (hpo : ∀ i : Nat, i < ds.length → po ≠ bs + i) : T.back pr po fa fp < 0 := by
  refine idx_none fun i c hc => ?_
  rcases h.cell hc with ⟨d, g, v, hdi, rfl, _, hf⟩ | ⟨_, rfl⟩
  · unfold there fitB
    dsimp only
    rw [hf.port, decide_eq_false (show ¬ bs + (i : Int) = po from fun e => hpo i (List.getElem?_eq_some_iff.1 hdi).1 e.symm)]
    simp
  · exact there_no _ _ _
theorem portF_is {pr fa fp : Int} {k : Nat} : ∀ (n i : Nat), i ≤ k → k < i + n → (∀ m : Nat, i ≤ m → m < k → 0 ≤ T.back pr (T.life + m) fa fp) → T.back pr (T.life + k) fa fp < 0 → portF T pr fa fp n i = some k
  | 0, i, h1, h2, _, _ => by omega
  | n + 1, i, h1, h2, h3, h4 => by
    unfold portF
    by_cases hik : i = k
    · subst hik
      rw [if_pos h4]
    · rw [if_neg (by have := h3 i (Nat.le_refl _) (by omega); omega)]
      exact portF_is n (i + 1) (by omega) (by omega) (fun m hm hk => h3 m (by omega) hk) h4
theorem TabI.lay (h : TabI pr fa fp bs Q ds T.cells) (hf8 : ds.length < 8) (hd : (a, b) ∉ ds) {st til : Int} (hQ : Q st til) :
    (T.lay ⟨pr, a, b, fa, fp, bs + ds.length, st, til⟩).1 = ((ds.length : Int), 0) ∧ (T.lay ⟨pr, a, b, fa, fp, bs + ds.length, st, til⟩).2.life = T.life ∧ TabI pr fa fp bs Q (ds ++ [(a, b)]) (T.lay ⟨pr, a, b, fa, fp, bs + ds.length, st, til⟩).2.cells := by
  have hout := h.out ds.length (Nat.le_refl _) (by omega)
  have hidx : idxI proto0 T.cells 0 = (ds.length : Int) := by
    have := idxI_at proto0 T.cells 0 ds.length _ hout (by unfold proto0; rfl) fun i y hi hy => by
      rcases h.cell hy with ⟨d, g, v, hdi, rfl, _, hf⟩ | ⟨h1, _⟩
      · unfold proto0
        dsimp only
        rw [hf.proto]
        exact decide_eq_false h.p0
      · omega
    rw [this]
    omega
  unfold MirS.lay
  rw [hidx, if_neg (by omega)]
  dsimp only
  rw [Int.toNat_natCast, setF_at hout]
  dsimp only
  refine ⟨rfl, rfl, h.p0, by rw [List.length_set]; exact h.len, by simp; omega, fun j d hj => ?_, fun j hj h32 => ?_, ?_⟩
  · by_cases hjk : j < ds.length
    · rw [List.getElem?_append_left hjk] at hj
      obtain ⟨v, f, h1, h2, h3⟩ := h.in_ j d hj
      exact ⟨v, f, by rw [List.getElem?_set_ne (by omega)]; exact h1, h2, h3⟩
    · have hj2 := (List.getElem?_eq_some_iff.1 hj).1
      rw [List.length_append, List.length_singleton] at hj2
      obtain rfl : j = ds.length := by omega
      rw [List.getElem?_append_right (Nat.le_refl _), Nat.sub_self] at hj
      obtain rfl := Option.some.inj hj
      exact ⟨_, _, List.getElem?_set_self (by rw [h.len]; omega), by decide, ⟨rfl, rfl, rfl, rfl, rfl, rfl, hQ⟩⟩
  · rw [List.length_append, List.length_singleton] at hj
    rw [List.getElem?_set_ne (by omega)]
    exact h.out j (by omega) h32
  · rw [List.nodup_append]
    exact ⟨h.nd, by simp, fun x hx y hy => by
      obtain rfl := List.mem_singleton.1 hy
      rintro rfl
      exact hd hx⟩
theorem TabI.add (h : TabI pr fa fp bs Q ds T.cells) (hl : T.life = bs) (hf8 : ds.length < 8) (hd : (a, b) ∉ ds) {st til : Int} (hQ : Q st til) :
    (T.add pr a b fa fp st til).1 = ((ds.length : Int), 0) ∧ (T.add pr a b fa fp st til).2.life = T.life ∧ TabI pr fa fp bs Q (ds ++ [(a, b)]) (T.add pr a b fa fp st til).2.cells := by
  have hp : portF T pr fa fp 24 0 = some ds.length := portF_is 24 0 (Nat.zero_le _) (by omega) (fun m _ hm => by rw [hl, h.back_in hm]; omega) (by rw [hl]; exact h.back_out fun i hi => by omega)
  unfold MirS.add
  rw [if_neg (by have := h.find_out hd; omega), hp]
  dsimp only
  rw [hl]
  have := h.lay hf8 hd hQ
  rw [← hl]
  rw [← hl] at this
  exact this
theorem TabI.put (h : TabI pr fa fp bs Q ds T.cells) (hf8 : ds.length < 8) {f : FlowS} (hd : (a, b) ∉ ds) (hf : Flo pr fa fp bs Q (a, b) ds.length f) : TabI pr fa fp bs Q (ds ++ [(a, b)]) (T.put f).2.cells := by
  obtain ⟨pr', ia, ip, fa', fp', po, st, ti⟩ := f
  obtain ⟨rfl, rfl, rfl, rfl, rfl, rfl, hQ⟩ := hf
  dsimp only at hQ hd h
  unfold MirS.put
  dsimp only
  rw [if_neg (by
    have h1 := h.find_out hd
    have h2 := h.back_out (po := bs + ds.length) fun i hi => by omega
    omega)]
  exact (h.lay hf8 hd hQ).2.2
theorem TabI.setF (h : TabI pr fa fp bs Q ds l) {d : Int × Int} (hd : ds[j]? = some d) {f : FlowS} (hf : Flo pr fa fp bs Q d j f) : TabI pr fa fp bs Q ds (setF l j f) := by
  obtain ⟨v, g, h1, h2, h3⟩ := h.in_ j d hd
  have hjl := (List.getElem?_eq_some_iff.1 hd).1
  rw [setF_at h1]
  refine ⟨h.p0, by rw [List.length_set]; exact h.len, h.few, fun i e hi => ?_, fun i hi h32 => ?_, h.nd⟩
  · by_cases hij : i = j
    · subst hij
      obtain rfl := Option.some.inj (hi.symm.trans hd)
      have := h.few
      exact ⟨_, _, List.getElem?_set_self (by rw [h.len]; omega), by dsimp only; omega, hf⟩
    · rw [List.getElem?_set_ne (Ne.symm hij)]
      exact h.in_ i e hi
  · rw [List.getElem?_set_ne (by omega)]
    exact h.out i hi h32
theorem TabI.flowAt (h : TabI pr fa fp bs Q ds T.cells) {d : Int × Int} (hd : ds[j]? = some d) : Flo pr fa fp bs Q d j (flowAt T j) ∧ T.flowErr j = 0 := by
  obtain ⟨v, g, h1, h2, h3⟩ := h.in_ j d hd
  have hjl := (List.getElem?_eq_some_iff.1 hd).1
  have := h.few
  unfold Go.Proofs.YtoaghhcjlfiflaaDoor.flowAt MirS.flowErr
  rw [Int.toNat_natCast, h1]
  dsimp only
  rw [if_neg (by omega), if_neg (by rw [h3.proto]; exact h.p0)]
  exact ⟨h3, rfl⟩
theorem TabI.setS (h : TabI pr fa fp bs Q ds T.cells) {d : Int × Int} (hd : ds[j]? = some d) {st til : Int} (hQ : Q st til) : TabI pr fa fp bs Q ds (T.setS j st til).2.cells ∧ (T.setS j st til).2.life = T.life := by
  obtain ⟨h1, h2⟩ := h.flowAt hd
  unfold MirS.setS
  rw [h2, if_neg (by simp), Int.toNat_natCast]
  exact ⟨h.setF hd ⟨h1.proto, h1.ia, h1.ip, h1.fa, h1.fp, h1.port, hQ⟩, rfl⟩
theorem TabI.expire (h : TabI pr fa fp bs Q ds T.cells) {now : Int} (hQ : ∀ s t, Q s t → now < t) : (T.expire now).cells = T.cells := by
  show expCells now 32 T.cells = _
  have he : expCells now 32 T.cells = T.cells.map (dropC now) := by
    unfold expCells
    rw [List.take_of_length_le (by rw [h.len]; exact Nat.le_refl _), List.drop_of_length_le (by rw [h.len]; exact Nat.le_refl _), List.append_nil]
  rw [he]
  conv => rhs; rw [← List.map_id T.cells]
  refine List.map_congr_left fun c hc => ?_
  obtain ⟨i, hi⟩ := List.getElem?_of_mem hc
  unfold dropC expC
  rcases h.cell hi with ⟨d, g, v, hdi, rfl, _, hf⟩ | ⟨_, rfl⟩
  · have := hQ _ _ hf.st
    dsimp only
    rw [decide_eq_false (show ¬ g.til ≤ now by omega), Bool.and_false, if_neg (by simp)]
    rfl
  · dsimp only
    rw [if_neg (by show ¬ (decide ((0 : Int) ≠ 0) && _) = true; simp)]
    rfl
theorem TabI.flows (h : TabI pr fa fp bs Q ds l) : ∃ fs : List FlowS, flowsOf l = fs ∧ fs.length = ds.length ∧ ∀ (j : Nat) d f, ds[j]? = some d → fs[j]? = some f → Flo pr fa fp bs Q d j f := by
  have h8 := h.few
  have hsplit : l = l.take ds.length ++ l.drop ds.length := (List.take_append_drop _ _).symm
  have h1 : (l.take ds.length).filter (fun c => decide (c.f.proto ≠ 0)) = l.take ds.length := by
    rw [List.filter_eq_self]
    intro c hc
    obtain ⟨i, hi⟩ := List.getElem?_of_mem hc
    rw [List.getElem?_take] at hi
    split at hi
    · rcases h.cell hi with ⟨d, g, v, hdi, rfl, _, hf⟩ | ⟨h1, _⟩
      · dsimp only
        rw [hf.proto]
        exact decide_eq_true h.p0
      · omega
    · cases hi
  have h2 : (l.drop ds.length).filter (fun c => decide (c.f.proto ≠ 0)) = [] := by
    rw [List.filter_eq_nil_iff]
    intro c hc
    obtain ⟨i, hi⟩ := List.getElem?_of_mem hc
    rw [List.getElem?_drop] at hi
    rcases h.cell hi with ⟨d, g, v, hdi, _⟩ | ⟨_, rfl⟩
    · have := (List.getElem?_eq_some_iff.1 hdi).1
      omega
    · show ¬ decide ((0 : Int) ≠ 0) = true
      simp
  have h3 : flowsOf l = (l.take ds.length).map (·.f) := by
    unfold flowsOf
    conv => lhs; rw [hsplit]
    rw [List.filter_append, h1, h2, List.append_nil]
  refine ⟨_, h3, by rw [List.length_map, List.length_take, h.len]; omega, fun j d f hd hf => ?_⟩
  have hjl := (List.getElem?_eq_some_iff.1 hd).1
  rw [List.getElem?_map, List.getElem?_take_of_lt hjl] at hf
  obtain ⟨c, hc, rfl⟩ := Option.map_eq_some_iff.1 hf
  obtain ⟨v, g, h1, _, h3⟩ := h.in_ j d hd
  obtain rfl := Option.some.inj (h1.symm.trans hc)
  exact h3
theorem TabI.putAll (now : Int) (hQ : ∀ s t, Q s t → Q' s (now + timeS pr s)) : ∀ (rest : List (Int × Int)) (fs : List FlowS) {done : List (Int × Int)} {T : MirS}, TabI pr fa fp bs Q' done T.cells → fs.length = rest.length → done.length + rest.length ≤ 8 → (done ++ rest).Nodup → (∀ (j : Nat) d f, rest[j]? = some d → fs[j]? = some f → Flo pr fa fp bs Q d (done.length + j) f) → TabI pr fa fp bs Q' (done ++ rest) (putAll now T fs).cells
  | [], [], done, T, h, _, _, _, _ => by rw [List.append_nil]; exact h
  | [], _ :: _, _, _, _, hl, _, _, _ => by cases hl
  | _ :: _, [], _, _, _, hl, _, _, _ => by cases hl
  | d :: rest, f :: fs, done, T, h, hl, h8, hn, hf => by
    have h1 := hf 0 d f rfl rfl
    rw [List.length_cons] at h8
    have hnd : (d.1, d.2) ∉ done := fun hm => by
      rw [List.nodup_append] at hn
      exact hn.2.2 _ hm _ List.mem_cons_self rfl
    have h2 := h.put (by omega) (f := { f with til := now + timeS f.proto f.state }) hnd ⟨h1.proto, h1.ia, h1.ip, h1.fa, h1.fp, h1.port, by dsimp only; rw [h1.proto]; exact hQ _ _ h1.st⟩
    have h3 := TabI.putAll now hQ rest fs (done := done ++ [d]) (T := (T.put { f with til := now + timeS f.proto f.state }).2) h2 (by simpa using hl) (by simp; omega) (by simpa using hn) fun j e g he hg => by
      have := hf (j + 1) e g he hg
      rw [List.length_append, List.length_singleton]
      rwa [show done.length + 1 + j = done.length + (j + 1) by omega]
    rw [List.append_assoc] at h3
    exact h3
end
end Go.Proofs.YtoaghhcjlfiflaaDoor

namespace Go.Proofs.YtoaghhcjlfiflaaDoor
open Go Ev
def ruT : List RuleS := [⟨true, true, 0, 1, 65535⟩]
def flT (pr : Int) : Int := if pr = 2 then 1 else 0
def bkT (pr : Int) : Int := if pr = 2 then 3 else 0
def st0 (pr : Int) : Int := if pr = 1 then 2 else 1
def Q0 (pr : Int) : Int → Int → Prop := fun s t => s = st0 pr ∧ t = 10 + timeS pr (st0 pr)
def Q1 (pr : Int) : Int → Int → Prop := fun s _ => s = st0 pr ∨ s = 2
theorem begin_st {pr : Int} (h : pr = 1 ∨ pr = 2) : beginS pr (flT pr) = (st0 pr, 0) := by
  rcases h with rfl | rfl <;> decide +kernel
theorem next_st {pr : Int} (h : pr = 1 ∨ pr = 2) : nextS pr (st0 pr) (flT pr) true = (st0 pr, false) := by
  rcases h with rfl | rfl <;> decide +kernel
theorem next_bk {pr s : Int} (h : pr = 1 ∨ pr = 2) (hs : s = st0 pr ∨ s = 2) : (nextS pr s (bkT pr) false).2 = false ∧ ((nextS pr s (bkT pr) false).1 = st0 pr ∨ (nextS pr s (bkT pr) false).1 = 2) := by
  rcases h with rfl | rfl <;> rcases hs with rfl | rfl <;> decide +kernel
theorem time_st {pr : Int} (h : pr = 1 ∨ pr = 2) : 10 ≤ timeS pr (st0 pr) := by
  rcases h with rfl | rfl <;> decide +kernel
theorem err_facts {p : PktS} (h : p.err = 0) : (p.proto = 1 ∨ p.proto = 2) ∧ endB p.sa p.sp = true ∧ endB p.da p.dp = true := by
  unfold PktS.err at h
  split at h
  · cases h
  rename_i hb
  unfold PktS.bad at hb
  rw [decide_eq_true_iff] at hb
  refine ⟨?_, ?_, ?_⟩
  · omega
  · cases he : endB p.sa p.sp with
    | true => rfl
    | false => exact absurd (.inr (.inl he)) hb
  · cases he : endB p.da p.dp with
    | true => rfl
    | false => exact absurd (.inr (.inr (.inl he))) hb
theorem err_zero {p : PktS} (h1 : p.proto = 1 ∨ p.proto = 2) (h2 : endB p.sa p.sp = true) (h3 : endB p.da p.dp = true) (h4 : 0 ≤ p.flags ∧ p.flags ≤ 15) (h5 : p.proto = 1 → p.flags = 0) : p.err = 0 := by
  unfold PktS.err
  have hb : p.bad = false := by
    unfold PktS.bad
    rw [h2, h3]
    refine decide_eq_false ?_
    simp
    omega
  rw [hb, if_neg (by decide), if_neg (by omega)]
section
variable {f pr fa fp bs a b : Int} {ds : List (Int × Int)} {N M : NodeS} {B C : BytS} {W : WorldS}
theorem pass_take {Q : Int → Int → Prop} {j : Nat} {d : Int × Int} {fl : Int} {o : Bool} (h : TabI pr fa fp bs Q ds N.tab.cells) (hd : ds[j]? = some d) (hq : ∀ s t, Q s t → (nextS pr s fl o).2 = false ∧ Q (nextS pr s fl o).1 (N.now + timeS pr (nextS pr s fl o).1)) : ∃ T', N.pass j fl o = { N with tab := T' } ∧ T'.life = N.tab.life ∧ TabI pr fa fp bs Q ds T'.cells := by
  obtain ⟨h1, _⟩ := h.flowAt hd
  obtain ⟨q1, q2⟩ := hq _ _ h1.st
  obtain ⟨s1, s2⟩ := h.setS hd q2
  refine ⟨_, ?_, s2, s1⟩
  unfold NodeS.pass
  rw [h1.proto, q1]
theorem inside_take (ha : N.role.active = true) (hnow : N.now = 10) (hru : N.rules = ruT) (hl : N.tab.life = bs) (h : TabI pr fa fp bs (Q0 pr) ds N.tab.cells) (h8 : ds.length < 8) (he : (⟨pr, a, b, fa, fp, flT pr⟩ : PktS).err = 0) :
    (N.inside ⟨pr, a, b, fa, fp, flT pr⟩).1 = 0 ∧ ∃ (ds' : List (Int × Int)) (j : Nat) (T' : MirS), (N.inside ⟨pr, a, b, fa, fp, flT pr⟩).2.2 = { N with tab := T' } ∧ T'.life = bs ∧ TabI pr fa fp bs (Q0 pr) ds' T'.cells ∧ (∀ (i : Nat) d, ds[i]? = some d → ds'[i]? = some d) ∧ ds'[j]? = some (a, b) ∧ ds'.length ≤ ds.length + 1 ∧ (N.inside ⟨pr, a, b, fa, fp, flT pr⟩).2.1.sp = bs + j := by
  obtain ⟨hpr, he1, he2⟩ := err_facts he
  dsimp only at hpr he1 he2
  unfold NodeS.inside
  rw [if_neg (fun g => g he), if_neg (by rw [ha]; decide)]
  dsimp only
  by_cases hm : (a, b) ∈ ds
  · obtain ⟨j, hj⟩ := List.getElem?_of_mem hm
    rw [h.find_in hj, if_pos (by omega)]
    obtain ⟨T', t1, t2, t3⟩ := pass_take (N := N) (fl := flT pr) (o := true) h hj fun s t hq => by
      obtain ⟨rfl, rfl⟩ := hq
      rw [next_st hpr]
      exact ⟨rfl, rfl, by dsimp only; rw [hnow]⟩
    exact ⟨rfl, ds, j, T', t1, t2.trans hl, t3, fun _ _ h => h, hj, Nat.le_succ _, (h.flowAt hj).1.port⟩
  · have hfo := h.find_out hm
    have had : admitsL pr fp true N.rules = true := by
      rw [hru]
      unfold endB at he2
      have he2 := of_decide_eq_true he2
      have hfit : (⟨true, true, 0, 1, 65535⟩ : RuleS).fits pr fp true = true := by
        unfold RuleS.fits
        exact decide_eq_true ⟨rfl, .inl rfl, by show (1 : Int) ≤ fp; omega, by show fp ≤ (65535 : Int); omega⟩
      unfold ruT admitsL
      rw [hfit]
    have hadd := h.add (st := st0 pr) (til := N.now + timeS pr (st0 pr)) hl h8 hm ⟨rfl, by rw [hnow]⟩
    have hbg : N.begin ⟨pr, a, b, fa, fp, flT pr⟩ = ((N.tab.add pr a b fa fp (st0 pr) (N.now + timeS pr (st0 pr))).1, { N with tab := (N.tab.add pr a b fa fp (st0 pr) (N.now + timeS pr (st0 pr))).2 }) := by
      unfold NodeS.begin
      dsimp only
      rw [had, if_neg (by decide), begin_st hpr, if_neg (by simp)]
    obtain ⟨g1, g2, g3⟩ := hadd
    rw [if_neg (by omega), hbg]
    dsimp only
    rw [g1, if_neg (by simp)]
    refine ⟨rfl, ds ++ [(a, b)], ds.length, _, rfl, g2.trans hl, g3, fun i d hi => ?_, ?_, by simp, ?_⟩
    · rw [List.getElem?_append_left (List.getElem?_eq_some_iff.1 hi).1]
      exact hi
    · rw [List.getElem?_append_right (Nat.le_refl _), Nat.sub_self]
      rfl
    · dsimp only
      have := (g3.flowAt (j := ds.length) (d := (a, b)) (by rw [List.getElem?_append_right (Nat.le_refl _), Nat.sub_self]; rfl)).1.port
      exact this
theorem outside_take {j : Nat} {d : Int × Int} (ha : M.role.active = true) (h : TabI pr fa fp bs (Q1 pr) ds M.tab.cells) (hd : ds[j]? = some d) (hpr : pr = 1 ∨ pr = 2) (hfar : endB fa fp = true) (hbs : 1 ≤ bs ∧ bs ≤ 3000) :
    (M.outside ⟨pr, fa, fp, 1, bs + j, bkT pr⟩).1 = 0 ∧ (M.outside ⟨pr, fa, fp, 1, bs + j, bkT pr⟩).2.1.da = d.1 ∧ (M.outside ⟨pr, fa, fp, 1, bs + j, bkT pr⟩).2.1.dp = d.2 ∧ ∃ T', (M.outside ⟨pr, fa, fp, 1, bs + j, bkT pr⟩).2.2 = { M with tab := T' } ∧ TabI pr fa fp bs (Q1 pr) ds T'.cells := by
  have hj := (List.getElem?_eq_some_iff.1 hd).1
  have h8 := h.few
  have he : (⟨pr, fa, fp, 1, bs + j, bkT pr⟩ : PktS).err = 0 := by
    refine err_zero hpr hfar ?_ ?_ ?_
    · unfold endB
      exact decide_eq_true (by dsimp only; omega)
    · rcases hpr with rfl | rfl <;> (dsimp only; decide)
    · intro h1
      dsimp only at h1
      subst h1
      rfl
  unfold NodeS.outside
  rw [if_neg (fun g => g he), if_neg (by rw [ha]; decide)]
  dsimp only
  rw [if_neg (by simp), h.back_in hj, if_neg (by omega)]
  obtain ⟨T', t1, t2, t3⟩ := pass_take (N := M) (fl := bkT pr) (o := false) h hd fun s t hq => ⟨(next_bk hpr hq).1, (next_bk hpr hq).2⟩
  have hfl := (h.flowAt hd).1
  exact ⟨rfl, hfl.ia, hfl.ip, T', t1, t3⟩

structure NA (f pr fa fp : Int) (ds : List (Int × Int)) (N : NodeS) (B : BytS) : Prop where
  id : N.id = f
  now : N.now = 10
  role : N.role = ⟨f, 2 - f, 10, true⟩
  rules : N.rules = ruT
  life : N.tab.life = 2000 + f * 24
  li : N.cell.li = 1
  tel : N.tel = tel0
  off : B.off = false
  tab : TabI pr fa fp (2000 + f * 24) (Q0 pr) ds N.tab.cells
structure SA (f pr fa fp : Int) (ds : List (Int × Int)) (W : WorldS) : Prop where
  ex : ∃ N M B C, Pr f W N M B C f (2 - f) ∧ NA f pr fa fp ds N B ∧ Nd (1 - f) 0 0 0 false 1000 1 1 M C
theorem SA.inside (hf : f = 0 ∨ f = 1) (h : SA f pr fa fp ds W) (h8 : ds.length < 8) (he : (⟨pr, a, b, fa, fp, flT pr⟩ : PktS).err = 0) :
    (W.inside ⟨pr, a, b, fa, fp, flT pr⟩).1 = 0 ∧ ∃ (ds' : List (Int × Int)) (j : Nat), SA f pr fa fp ds' (W.inside ⟨pr, a, b, fa, fp, flT pr⟩).2.2 ∧ (∀ (i : Nat) d, ds[i]? = some d → ds'[i]? = some d) ∧ ds'[j]? = some (a, b) ∧ ds'.length ≤ ds.length + 1 ∧ (W.inside ⟨pr, a, b, fa, fp, flT pr⟩).2.1.sp = 2000 + f * 24 + j := by
  obtain ⟨N, M, B, C, hP, hN, hM⟩ := h.ex
  obtain ⟨i1, ds', j, T', i2, i3, i4, i5, i6, i7, i8⟩ := inside_take (by rw [hN.role]) hN.now hN.rules hN.life hN.tab h8 he
  have hw : W.inside ⟨pr, a, b, fa, fp, flT pr⟩ = ((N.inside ⟨pr, a, b, fa, fp, flT pr⟩).1, (N.inside ⟨pr, a, b, fa, fp, flT pr⟩).2.1, W.setSide f ⟨some (N.inside ⟨pr, a, b, fa, fp, flT pr⟩).2.2, B⟩) := by
    have hh : W.handErr = 0 := by
      unfold WorldS.handErr WorldS.upErr
      rw [hP.to, if_neg (by omega), if_neg (by omega), hP.x]
    unfold WorldS.inside
    rw [hh, if_neg (by simp), hP.to, hP.x]
  rw [hw]
  refine ⟨i1, ds', j, ⟨{ N with tab := T' }, M, B, C, ?_, ⟨hN.id, hN.now, hN.role, hN.rules, i3, hN.li, hN.tel, hN.off, i4⟩, hM⟩, i5, i6, i7, i8⟩
  obtain ⟨s1, s2, s3, s4, s5⟩ := sides_set hf W ⟨some (N.inside ⟨pr, a, b, fa, fp, flT pr⟩).2.2, B⟩
  exact ⟨s5.trans hP.fly, by rw [← i2]; exact s1, s2.trans hP.y, s3.trans hP.to, s4.trans hP.ep⟩

def WorldS.tk (W : WorldS) (n : Int) : Nat → WorldS
  | 0 => W
  | k + 1 => ((W.tk n k).tick n).2
theorem tick_gen {n : Int} {N' : NodeS} {B' : BytS} (hn : n = 0 ∨ n = 1) (hx : W.side n = ⟨some N, B⟩) {l : List NoteS} (ht : N.tick B = (0, l, N', B')) (hl : W.fly.length + l.length ≤ 200) (ho : B'.off = false) :
    (W.tick n).1 = 0 ∧ (W.tick n).2.fly = W.fly ++ l ∧ (W.tick n).2.side n = ⟨some N', B'⟩ ∧ (W.tick n).2.side (1 - n) = W.side (1 - n) ∧ (W.tick n).2.to = W.to ∧ (W.tick n).2.epoch = W.epoch := by
  obtain ⟨s1, s2, s3, s4, s5⟩ := sides_set hn W ⟨some N', B'⟩
  have hw : W.tick n = W.ticked n N (0, l, N', B') := by
    unfold WorldS.tick
    rw [if_neg (by omega), hx]
    dsimp only
    rw [ht]
  rw [hw]
  unfold WorldS.ticked
  dsimp only
  rw [if_neg (by rw [ho]; decide), if_neg (by simp)]
  have hsd : ∀ (V : WorldS) (ev : List (Int × Int)) (fl : List NoteS) (q : Int), ({ V with events := ev, fly := fl } : WorldS).side q = V.side q := fun _ _ _ _ => rfl
  refine ⟨rfl, ?_, ?_, ?_, s3, s4⟩
  · dsimp only
    rw [List.take_of_length_le (by omega)]
  · rw [hsd, s1]
  · rw [hsd, s2]
theorem dl_two {n : Int} {x y : NoteS} (hn : n = 0 ∨ n = 1) (a2 : W.fly = [x, y]) (a3 : W.side n = ⟨some N, B⟩) (a4 : W.side (1 - n) = ⟨some M, C⟩) (hx : x.claim = true ∧ x.fro = n) (hy : y.claim = false ∧ y.fro = n) (hle : x.epoch ≤ W.epoch) (ht : 0 ≤ W.to) (k : Nat) : Pr n (W.dl (k + 2)) N (M.hear y).2 B C W.to W.epoch := by
  obtain ⟨d1, d2⟩ := deliver_cons a2
  obtain ⟨d3, d4⟩ := deliver_cons d2
  have hgx : (W.off 0).got x = W.off 0 := by
    unfold WorldS.got
    rw [if_pos hx.1]
    exact if_neg (by show ¬ (x.epoch > W.epoch ∨ W.to < 0); omega)
  rw [dl_next, d1, dl_next, d3, dl_nil d4]
  rw [hgx] at d2 d4 ⊢
  have hn2 : 1 - n = 0 ∨ 1 - n = 1 := by omega
  obtain ⟨s1, s2, s3, s4, s5⟩ := sides_set hn2 ((W.off 0).off 0) ⟨some (M.hear y).2, C⟩
  have hv : ((W.off 0).off 0).got y = ((W.off 0).off 0).setSide (1 - n) ⟨some (M.hear y).2, C⟩ := by
    unfold WorldS.got
    rw [if_neg (by rw [hy.1]; decide), hy.2, if_neg (by omega), show ((W.off 0).off 0).side (1 - n) = ⟨some M, C⟩ from a4]
  rw [hv] at d4 ⊢
  rw [show 1 - (1 - n) = n by omega] at s2
  exact ⟨d4, s2.trans a3, s1, s3, s4⟩
theorem TabI.under {Q : Int → Int → Prop} {l : List CellS} (h : TabI pr fa fp bs Q ds l) : Under emptyCells l := ⟨emptyCells_len, fun s hs => by
  obtain ⟨c, hc⟩ : ∃ c, l[s]? = some c := ⟨_, List.getElem?_eq_getElem (by rw [h.len]; exact hs)⟩
  refine ⟨_, c, emptyCells_at hs, hc, ?_⟩
  rcases h.cell hc with ⟨d, g, v, _, rfl, hv, _⟩ | ⟨_, rfl⟩
  · exact ⟨rfl, by dsimp only; omega, fun e => by dsimp only at e; omega⟩
  · exact Und.refl _⟩
theorem TabI.told {Q : Int → Int → Prop} {l : List CellS} (h : TabI pr fa fp bs Q ds l) : (outC l (tel0.picks l)).foldl put1C emptyCells = l := by
  have hp := picks_law (X := tel0) l (by decide)
  have hsl : ∀ (k : Nat) c, l[k]? = some c → c.slot = k := fun k c hc => by
    rcases h.cell hc with ⟨d, g, v, _, rfl, _⟩ | ⟨_, rfl⟩ <;> rfl
  have hu := h.under
  have g0 : Gots emptyCells l (fun k => ds.length ≤ k) := fun k hk hK => by
    rw [emptyCells_at hk, h.out k hK hk]
  have g1 := Gots.puts hsl h.len g0 hu (p := tel0.picks l) hp.lt
  have hu1 : Under ((outC l (tel0.picks l)).foldl put1C emptyCells) l := Under.fold _ hu fun c hc => by
    unfold outC at hc
    obtain ⟨k, hk, rfl⟩ := List.mem_map.1 hc
    have hk2 := hp.lt k hk
    have hg := List.getElem?_eq_getElem (l := l) (by rw [h.len]; exact hk2 : k < l.length)
    rw [cellAt_of hg]
    exact ⟨k, hk2, hsl k _ hg, _, hg, Und.refl _⟩
  refine Gots.full g1 hu1.len h.len fun k hk => ?_
  by_cases hkd : ds.length ≤ k
  · exact .inl hkd
  · right
    refine hp.sub k ?_
    have h8 := h.few
    have hlag : ∀ i : Nat, i < 32 → (lagB l tel0.told i = true ↔ i < ds.length) := fun i hi => by
      have ht : toldAt tel0.told i = 0 := toldAt_of (by show (List.replicate 32 (0 : Int))[i]? = _; rw [List.getElem?_replicate, if_pos hi])
      obtain ⟨c, hc⟩ : ∃ c, l[i]? = some c := ⟨_, List.getElem?_eq_getElem (by rw [h.len]; exact hi)⟩
      unfold lagB
      rw [ht, verAt_of hc, decide_eq_true_iff]
      rcases h.cell hc with ⟨d, g, v, hdi, rfl, hv, _⟩ | ⟨hge, rfl⟩
      · have := (List.getElem?_eq_some_iff.1 hdi).1
        dsimp only
        omega
      · dsimp only
        omega
    unfold pick1
    have hlen : ((List.range 32).filter (lagB l tel0.told)).length ≤ 8 := by
      have := nodup_le (l := (List.range 32).filter (lagB l tel0.told)) (p := List.range ds.length) ((List.filter_sublist).nodup List.nodup_range) fun x hx => by
        obtain ⟨h1, h2⟩ := List.mem_filter.1 hx
        exact List.mem_range.2 ((hlag x (List.mem_range.1 h1)).1 h2)
      rw [List.length_range] at this
      omega
    rw [List.take_of_length_le hlen]
    exact List.mem_filter.2 ⟨List.mem_range.2 hk, (hlag k hk).2 (by omega)⟩
def NoCellsIn (x : List CellS) : Prop := x.length ≤ 8 ∧ x.any badSlot = false
structure MI (f pr fa fp : Int) (ds : List (Int × Int)) (k : Nat) (M : NodeS) (C : BytS) : Prop where
  id : M.id = 1 - f
  now : M.now = (k : Int)
  role : M.role = ⟨1 - f, 2 - f, (k : Int), false⟩
  tab : M.tab.cells = emptyCells
  mir : TabI pr fa fp (2000 + f * 24) (Q0 pr) ds M.mir.cells
  pow : Pow C
  cell : openS C.data = M.cell
  num : M.cell.num ≤ 1000
  li : M.cell.li = 1
  ep : (M.cell.ep : Int) ≤ 2 - f
structure SC (f pr fa fp : Int) (ds : List (Int × Int)) (W : WorldS) : Prop where
  ex : ∃ N M B C, Pr f W N M B C f (2 - f) ∧ MI f pr fa fp ds 0 M C
theorem take1 (hf : f = 0 ∨ f = 1) (hpr : pr = 1 ∨ pr = 2) (h : SA f pr fa fp ds W) : (∀ k : Nat, k < 3 → ((W.tk f k).tick f).1 = 0) ∧ SC f pr fa fp ds ((W.tk f 3).dl 10) := by
  obtain ⟨N, M, B, C, hP, hN, hM⟩ := h.ex
  have htm := time_st hpr
  have hq : ∀ t : Int, t ≤ 13 → ∀ s u, Q0 pr s u → t < u := fun t ht s u hq => by
    obtain ⟨_, rfl⟩ := hq
    omega
  have t1 := tick_rest (B := B) hN.role (by rw [hN.now]; decide) (by rw [hN.now]; decide)
  have c1 : (N.tab.expire (N.now + 1)).cells = N.tab.cells := hN.tab.expire (hq _ (by rw [hN.now]; decide))
  generalize hN1 : ({ N with now := N.now + 1, tab := N.tab.expire (N.now + 1) } : NodeS) = N1 at t1
  have e1 : N1.now = 11 ∧ N1.role = ⟨f, 2 - f, 10, true⟩ ∧ N1.tab.cells = N.tab.cells ∧ N1.id = f ∧ N1.cell.li = 1 ∧ N1.tel = tel0 := by
    subst hN1
    exact ⟨by dsimp only; rw [hN.now]; rfl, hN.role, c1, hN.id, hN.li, hN.tel⟩
  clear hN1
  obtain ⟨n1, n2, n3, n4, n5, n6⟩ := e1
  obtain ⟨a1, a2, a3, a4, a5, a6⟩ := tick_gen hf hP.x t1 (by rw [hP.fly]; simp) hN.off
  have t2 := tick_beat (B := B) n2 (by rw [n1]; decide) (by rw [n1]; decide)
  have hT1 : TabI pr fa fp (2000 + f * 24) (Q0 pr) ds N1.tab.cells := by rw [n3]; exact hN.tab
  have c2 : (N1.tab.expire (N1.now + 1)).cells = N1.tab.cells := hT1.expire (hq _ (by rw [n1]; decide))
  rw [n4, n5, c2, n6] at t2
  generalize hN2 : ({ id := f, now := N1.now + 1, role := N1.role, cell := N1.cell, tab := N1.tab.expire (N1.now + 1), tel := tel0.next N1.tab.cells, mir := N1.mir, rules := N1.rules } : NodeS) = N2 at t2
  have e2 : N2.now = 12 ∧ N2.role = ⟨f, 2 - f, 10, true⟩ := by
    subst hN2
    exact ⟨by dsimp only; rw [n1]; rfl, n2⟩
  clear hN2
  obtain ⟨m1, m2⟩ := e2
  obtain ⟨b1, b2, b3, b4, b5, b6⟩ := tick_gen hf a3 t2 (by rw [a2, hP.fly]; simp) hN.off
  have t3 := tick_rest (B := B) m2 (by rw [m1]; decide) (by rw [m1]; decide)
  obtain ⟨d1, d2, d3, d4, d5, d6⟩ := tick_gen hf b3 t3 (by rw [b2, a2, hP.fly]; simp) hN.off
  refine ⟨fun k hk => ?_, ?_⟩
  · match k, hk with
    | 0, _ => exact a1
    | 1, _ => exact b1
    | 2, _ => exact d1
  have hW3 : W.tk f 3 = ((((W.tick f).2.tick f).2).tick f).2 := rfl
  rw [hW3]
  rw [b2, a2, hP.fly, List.nil_append, List.nil_append, List.append_nil] at d2
  have hto := d5.trans (b5.trans (a5.trans hP.to))
  have hep := d6.trans (b6.trans (a6.trans hP.ep))
  have hP3 := dl_two hf d2 d3 (d4.trans (b4.trans (a4.trans hP.y))) ⟨rfl, rfl⟩ ⟨rfl, rfl⟩ (by rw [hep]; exact Int.le_refl _) (by rw [hto]; omega) 8
  rw [hto, hep] at hP3
  refine ⟨_, _, _, _, hP3, ?_⟩
  have hxs : NoCellsIn (outC N1.tab.cells (tel0.picks N1.tab.cells)) := by
    have hp := picks_law (X := tel0) N1.tab.cells (by decide)
    refine ⟨by unfold outC; rw [List.length_map, hp.len]; exact Nat.le_refl _, ?_⟩
    rw [List.any_eq_false]
    intro c hc
    unfold outC at hc
    obtain ⟨k, hk, rfl⟩ := List.mem_map.1 hc
    have hk2 := hp.lt k hk
    have hg := List.getElem?_eq_getElem (l := N1.tab.cells) (by rw [hT1.len]; exact hk2 : k < N1.tab.cells.length)
    rw [cellAt_of hg]
    unfold badSlot
    rcases hT1.cell hg with ⟨d, g, v, _, he, _⟩ | ⟨_, he⟩
    · rw [he]
      dsimp only
      rw [decide_eq_false (by omega), decide_eq_false (by omega)]
      decide
    · rw [he]
      dsimp only
      rw [decide_eq_false (by omega), decide_eq_false (by omega)]
      decide
  have htell : (M.mir.tell ((1 : Nat) : Int) (outC N1.tab.cells (tel0.picks N1.tab.cells))) = (0, ⟨if ((1 : Nat) : Int) > M.mir.life then ((1 : Nat) : Int) else M.mir.life, N1.tab.cells⟩) := by
    have hml := hM.ml
    unfold MirS.tell
    rw [if_neg (by rw [hxs.2]; have := hxs.1; simp; omega), if_neg (by omega), hM.mir]
    have hif : (if ((1 : Nat) : Int) > M.mir.life then emptyCells else emptyCells) = emptyCells := by split <;> rfl
    rw [hif, hT1.told]
  have hhear : (M.hear ⟨f, ((1 : Nat) : Int), 2 - f, false, outC N1.tab.cells (tel0.picks N1.tab.cells)⟩).2 = { M with mir := ⟨if ((1 : Nat) : Int) > M.mir.life then ((1 : Nat) : Int) else M.mir.life, N1.tab.cells⟩, role := ⟨1 - f, 2 - f, 0, false⟩ } := by
    have hid := hM.id
    have hr : (M.role.hear (2 - f)).2 = ⟨1 - f, 2 - f, 0, false⟩ := by
      rw [hM.role]
      exact hear_up (by omega) (by show 2 - f > 0; omega)
    unfold NodeS.hear
    dsimp only
    rw [if_neg (by omega), if_neg (by simp), htell]
    dsimp only
    rw [if_neg (by simp), hr]
  rw [hhear]
  exact ⟨hM.id, hM.now, rfl, hM.tab, by rw [show N1.tab.cells = N.tab.cells from n3]; exact hN.tab, hM.pow, hM.cell, hM.num, hM.li, by have := hM.cep; dsimp only; omega⟩

structure SI (f pr fa fp : Int) (ds : List (Int × Int)) (k : Nat) (W : WorldS) : Prop where
  fly : W.fly = []
  to : W.to = f
  ep : W.epoch = 2 - f
  ex : ∃ M C, W.side (1 - f) = ⟨some M, C⟩ ∧ MI f pr fa fp ds k M C
structure SD (f pr fa fp : Int) (ds : List (Int × Int)) (W : WorldS) : Prop where
  to : W.to = 1 - f
  ex : ∃ M C, W.side (1 - f) = ⟨some M, C⟩ ∧ M.role.active = true ∧ TabI pr fa fp (2000 + f * 24) (Q1 pr) ds M.tab.cells
theorem SI.next (hf : f = 0 ∨ f = 1) {k : Nat} (h : SI f pr fa fp ds k W) (hk : k < 9) : (W.tick (1 - f)).1 = 0 ∧ SI f pr fa fp ds (k + 1) (W.tick (1 - f)).2 := by
  obtain ⟨M, C, hM, hI⟩ := h.ex
  have hnow := hI.now
  have t1 := tick_idle (B := C) hI.role (by omega) (by omega)
  obtain ⟨a1, a2, a3, a4, a5, a6⟩ := tick_gen (n := 1 - f) (by omega) hM t1 (by rw [h.fly]; simp) hI.pow.off
  refine ⟨a1, by rw [a2, h.fly]; rfl, a5.trans h.to, a6.trans h.ep, _, _, a3, ⟨hI.id, by dsimp only; omega, rfl, ?_, hI.mir, hI.pow, hI.cell, hI.num, hI.li, hI.ep⟩⟩
  exact expire_no hI.tab _
theorem SI.claim (hf : f = 0 ∨ f = 1) (hpr : pr = 1 ∨ pr = 2) (h : SI f pr fa fp ds 9 W) : (W.tick (1 - f)).1 = 0 ∧ ∀ k : Nat, SD f pr fa fp ds ((W.tick (1 - f)).2.dl (k + 1)) := by
  obtain ⟨M, C, hM, hI⟩ := h.ex
  have hnow := hI.now
  have hnum := hI.num
  have hli := hI.li
  have hn : 1 - f = 0 ∨ 1 - f = 1 := by omega
  obtain ⟨e, C', e1, e2, p1, p2, ht, hnx⟩ := tick_claim (B := C) hI.role (by omega) (by omega) (by rw [hnow]; decide) hI.pow hI.cell (by omega) (by omega) hI.ep (by omega) (by omega)
  obtain ⟨a1, a2, a3, a4, a5, a6⟩ := tick_gen (n := 1 - f) hn hM ht (by rw [h.fly]; simp) p1.off
  refine ⟨a1, fun k => ?_⟩
  rw [h.fly, List.nil_append] at a2
  obtain ⟨d1, d2⟩ := deliver_cons a2
  rw [dl_next, d1, dl_nil d2]
  generalize (W.tick (1 - f)).2 = V at a2 a3 a4 a5 a6 d1 d2
  have hgot : (V.off 0).got ⟨M.id, M.cell.li, (e : Int), true, []⟩ = { V.off 0 with to := 1 - f, epoch := (e : Int) } := by
    unfold WorldS.got
    rw [if_pos rfl]
    have : (e : Int) > (V.off 0).epoch ∨ (V.off 0).to < 0 := .inl (by show (e : Int) > V.epoch; rw [a6, h.ep]; omega)
    rw [if_pos this]
    dsimp only
    rw [hI.id]
  rw [hgot]
  refine ⟨rfl, _, _, a3, rfl, ?_⟩
  dsimp only
  obtain ⟨fs, f1, f2, f3⟩ := hI.mir.flows
  rw [f1]
  have h8 := hI.mir.few
  have he : (M.tab.expire (M.now + 1)).cells = emptyCells := expire_no hI.tab _
  have := TabI.putAll (pr := pr) (fa := fa) (fp := fp) (bs := 2000 + f * 24) (Q := Q0 pr) (Q' := Q1 pr) (M.now + 1) (fun s t hq => .inl hq.1) ds fs (done := []) (T := M.tab.expire (M.now + 1)) (by rw [he]; exact TabI.empty hI.mir.p0) f2 (by simpa using h8) (by simpa using hI.mir.nd) fun j d g hd hg => by
    have := f3 j d g hd hg
    rwa [List.length_nil, Nat.zero_add]
  exact this
theorem take2 (hf : f = 0 ∨ f = 1) (hpr : pr = 1 ∨ pr = 2) (h : SC f pr fa fp ds W) : (W.down f).1 = 0 ∧ (∀ k : Nat, k < 10 → (((W.down f).2.tk (1 - f) k).tick (1 - f)).1 = 0) ∧ SD f pr fa fp ds (((W.down f).2.tk (1 - f) 10).dl 10) := by
  obtain ⟨N, M, B, C, hP, hM⟩ := h.ex
  have hw : W.down f = (0, W.setSide f ⟨none, { B with off := true }⟩) := by
    have hu : W.upErr f = 0 := by
      unfold WorldS.upErr
      rw [if_neg (by omega), hP.x]
    unfold WorldS.down
    rw [if_neg (fun g => g hu), hP.x]
  rw [hw]
  dsimp only
  obtain ⟨s1, s2, s3, s4, s5⟩ := sides_set hf W ⟨none, { B with off := true }⟩
  have h0 : SI f pr fa fp ds 0 (W.setSide f ⟨none, { B with off := true }⟩) := ⟨s5.trans hP.fly, s3.trans hP.to, s4.trans hP.ep, M, C, s2.trans hP.y, hM⟩
  generalize W.setSide f ⟨none, { B with off := true }⟩ = V at h0
  have hk : ∀ k : Nat, k ≤ 9 → SI f pr fa fp ds k (V.tk (1 - f) k) := fun k => by
    induction k with
    | zero => exact fun _ => h0
    | succ k ih => exact fun hk => ((ih (by omega)).next hf (by omega)).2
  obtain ⟨c1, c2⟩ := (hk 9 (Nat.le_refl _)).claim hf hpr
  refine ⟨rfl, fun k h10 => ?_, c2 9⟩
  by_cases h9 : k < 9
  · exact ((hk k (by omega)).next hf h9).1
  · obtain rfl : k = 9 := by omega
    exact c1
theorem SD.outside {j : Nat} {d : Int × Int} (hf : f = 0 ∨ f = 1) (hpr : pr = 1 ∨ pr = 2) (hfar : endB fa fp = true) (h : SD f pr fa fp ds W) (hd : ds[j]? = some d) :
    (W.outside ⟨pr, fa, fp, 1, 2000 + f * 24 + j, bkT pr⟩).1 = 0 ∧ (W.outside ⟨pr, fa, fp, 1, 2000 + f * 24 + j, bkT pr⟩).2.1.da = d.1 ∧ (W.outside ⟨pr, fa, fp, 1, 2000 + f * 24 + j, bkT pr⟩).2.1.dp = d.2 ∧ SD f pr fa fp ds (W.outside ⟨pr, fa, fp, 1, 2000 + f * 24 + j, bkT pr⟩).2.2 := by
  obtain ⟨M, C, hM, ha, hT⟩ := h.ex
  have hn : 1 - f = 0 ∨ 1 - f = 1 := by omega
  obtain ⟨o1, o2, o3, T', o4, o5⟩ := outside_take ha hT hd hpr hfar ⟨by omega, by omega⟩
  have hw : W.outside ⟨pr, fa, fp, 1, 2000 + f * 24 + j, bkT pr⟩ = ((M.outside ⟨pr, fa, fp, 1, 2000 + f * 24 + j, bkT pr⟩).1, (M.outside ⟨pr, fa, fp, 1, 2000 + f * 24 + j, bkT pr⟩).2.1, W.setSide (1 - f) ⟨some (M.outside ⟨pr, fa, fp, 1, 2000 + f * 24 + j, bkT pr⟩).2.2, C⟩) := by
    have hh : W.handErr = 0 := by
      unfold WorldS.handErr WorldS.upErr
      rw [h.to, if_neg (by omega), if_neg (by omega), hM]
    unfold WorldS.outside
    rw [hh, if_neg (by simp), h.to, hM]
  obtain ⟨s1, s2, s3, s4, s5⟩ := sides_set hn W ⟨some (M.outside ⟨pr, fa, fp, 1, 2000 + f * 24 + j, bkT pr⟩).2.2, C⟩
  rw [hw]
  refine ⟨o1, o2, o3, s3.trans h.to, { M with tab := T' }, C, by rw [← o4]; exact s1, ha, o5⟩

def takeFacts (f : Int) : Bool :=
  let R := (WorldS.born ruT).ticks f 10
  let D := R.2.deliver 0
  R.1 == 0 && D.1 == 0 && D.2.fly.length == 0 && D.2.to == f && D.2.epoch == 2 - f &&
  (match (D.2.side f).node with
    | some N => N.id == f && N.now == 10 && N.role.node == f && N.role.epoch == 2 - f && N.role.silence == 10 && N.role.active && N.tab.life == 2000 + f * 24 && decide (N.tab.cells = emptyCells) && decide (N.tel.told = tel0.told) && N.tel.cursor == 0 && N.cell.li == 1 && decide (N.rules = ruT) && !(D.2.side f).byt.off
    | none => false) &&
  (match (D.2.side (1 - f)).node with
    | some M => M.id == 1 - f && M.now == 0 && M.role.node == 1 - f && M.role.epoch == 0 && M.role.silence == 0 && !M.role.active && decide (M.tab.cells = emptyCells) && decide (M.mir.cells = emptyCells) && M.mir.life == 0 && !(D.2.side (1 - f)).byt.off && (D.2.side (1 - f)).byt.left == -1 && (D.2.side (1 - f)).byt.data.length == 64 && (openS (D.2.side (1 - f)).byt.data).num == M.cell.num && (openS (D.2.side (1 - f)).byt.data).ep == M.cell.ep && (openS (D.2.side (1 - f)).byt.data).li == M.cell.li && (openS (D.2.side (1 - f)).byt.data).dead == M.cell.dead && M.cell.num == 1 && M.cell.li == 1 && M.cell.ep == 0 && M.tel.cursor == 0
    | none => false)
theorem take_facts : takeFacts 0 = true ∧ takeFacts 1 = true := by decide +kernel
theorem roleT_eta {r : RoleS} {a b d : Int} {e : Bool} (h1 : r.node = a) (h2 : r.epoch = b) (h3 : r.silence = d) (h4 : r.active = e) : r = ⟨a, b, d, e⟩ := by
  subst h1 h2 h3 h4
  rfl
theorem cel_eta {C D : CelS} (h1 : C.num = D.num) (h2 : C.ep = D.ep) (h3 : C.li = D.li) (h4 : C.dead = D.dead) : C = D := by
  obtain ⟨a, b, c, d⟩ := C
  obtain ⟨a', b', c', d'⟩ := D
  subst h1 h2 h3 h4
  rfl
theorem tel_eta {X Y : TelS} (h1 : X.told = Y.told) (h2 : X.cursor = Y.cursor) : X = Y := by
  obtain ⟨a, b⟩ := X
  obtain ⟨a', b'⟩ := Y
  subst h1 h2
  rfl
theorem take0 (hf : f = 0 ∨ f = 1) (hp : pr ≠ 0) (fa fp : Int) : ((WorldS.born ruT).ticks f 10).1 = 0 ∧ (((WorldS.born ruT).ticks f 10).2.deliver 0).1 = 0 ∧ SA f pr fa fp [] (((WorldS.born ruT).ticks f 10).2.deliver 0).2 := by
  have h : takeFacts f = true := by
    rcases hf with rfl | rfl
    · exact take_facts.1
    · exact take_facts.2
  unfold takeFacts at h
  dsimp only at h
  generalize (WorldS.born ruT).ticks f 10 = R at h
  generalize R.2.deliver 0 = D at h
  obtain ⟨e, V⟩ := D
  dsimp only at h
  cases hN : (V.side f).node with
  | none => rw [hN] at h; simp at h
  | some N =>
    cases hM : (V.side (1 - f)).node with
    | none => rw [hM] at h; simp at h
    | some M =>
      rw [hN, hM] at h
      simp only [Bool.and_eq_true, beq_iff_eq, decide_eq_true_eq, Bool.not_eq_true'] at h
      obtain ⟨⟨⟨⟨⟨⟨h1, h2⟩, h3⟩, h4⟩, h5⟩, hn⟩, hm⟩ := h
      obtain ⟨⟨⟨⟨⟨⟨⟨⟨⟨⟨⟨⟨n1, n2⟩, n3⟩, n4⟩, n5⟩, n6⟩, n7⟩, n8⟩, n9⟩, n10⟩, n11⟩, n12⟩, n13⟩ := hn
      obtain ⟨⟨⟨⟨⟨⟨⟨⟨⟨⟨⟨⟨⟨⟨⟨⟨⟨⟨⟨m1, m2⟩, m3⟩, m4⟩, m5⟩, m6⟩, m7⟩, m8⟩, m9⟩, m10⟩, m11⟩, m12⟩, m13⟩, m14⟩, m15⟩, m16⟩, m17⟩, m18⟩, m19⟩, m20⟩ := hm
      refine ⟨h1, h2, N, M, (V.side f).byt, (V.side (1 - f)).byt, ⟨List.length_eq_zero_iff.1 h3, by rw [← hN], by rw [← hM], h4, h5⟩, ?_, ?_⟩
      · exact ⟨n1, n2, roleT_eta n3 n4 n5 n6, n12, n7, n11, tel_eta n9 n10, n13, by rw [n8]; exact TabI.empty hp⟩
      · exact ⟨m1, m2, roleT_eta m3 m4 m5 m6, m7, m8, by rw [m9]; decide, ⟨⟨m12, by omega, by omega⟩, m10, m11⟩, cel_eta m13 m14 m15 m16, by omega, m18, by decide, by rw [m19]; decide, by decide, by omega⟩
end
end Go.Proofs.YtoaghhcjlfiflaaDoor

namespace Go.Proofs.YtoaghhcjlfiflaaDoor
open Go Ev
def bornFacts : Bool :=
  let R := (WorldS.born []).ticks 0 10
  let D := R.2.deliver 0
  R.1 == 0 && R.2.to == -1 && R.2.epoch == 0 && R.2.fly.length == 1 && D.1 == 0 && D.2.to == 0 && D.2.epoch == 2 && D.2.events.length == 1
theorem bornFacts_true : bornFacts = true := by decide +kernel
theorem born_plain : ((WorldS.born []).ticks 0 10).1 = 0 ∧ ((WorldS.born []).ticks 0 10).2.to = -1 ∧ ((WorldS.born []).ticks 0 10).2.epoch = 0 ∧ ((WorldS.born []).ticks 0 10).2.fly.length = 1 ∧ (((WorldS.born []).ticks 0 10).2.deliver 0).1 = 0 ∧ (((WorldS.born []).ticks 0 10).2.deliver 0).2.to = 0 ∧ (((WorldS.born []).ticks 0 10).2.deliver 0).2.epoch = 2 ∧ (((WorldS.born []).ticks 0 10).2.deliver 0).2.events.length = 1 := by
  have h := bornFacts_true
  unfold bornFacts at h
  simpa [Bool.and_eq_true, and_assoc] using h
section
variable {w w' : World} {X : WorldA} {W : WorldS} {E : Nat → Addr} {q m : Nat}
theorem Ext.new_of {H H' : List Ent} {w w1 w' : World} (h : Ext No w w1) (hf : ∀ b, inF H b → w.heap.size ≤ b) (k : Turns w1 w' H H') : Ext No w w' := h.then k.ext fun b hb => .inr (hf b hb)
theorem born_ok' (hE : Errs w E q insErrs) (hq : q ≤ w.heap.size) : CallC Tryd.prog 4 #[] w fun v w' => v = .bool true ∧ Ext No w w' := by
  obtain ⟨b1, b2, b3, b4, b5, b6, b7, b8⟩ := born_plain
  have hnil : Slc w 5 encRule (fun _ => True) none 0 ([] : List RuleS) := ⟨rfl, by decide, fun k x hk => by simp at hk, fun _ _ => trivial⟩
  refine fn_intro tabOk Tryd.func4 (by kernel_rfl) rfl Tryd.ntmps4 (Nat.le_of_ble_eq_true rfl) ?_
  (conv => whnf)
  refine (wnew_ok hnil (by decide) hE hq (by decide)).mono ?_
  rintro v w1 ⟨X, rfl, hx, hst, hf⟩
  (conv => whnf)
  generalize WorldS.born [] = V at *
  refine loopR tabOk (fun σ w' r => ∃ (i : Nat) (X' : WorldA) (W' : WorldS), σ = [(3, .int .i64 i), (1, .pointer (some ⟨X.w, 0, none⟩))] ∧ r = 10 - i ∧ i ≤ 10 ∧ X'.w = X.w ∧ Stands E q (34 * i) w' X' W' ∧ Turns w1 w' (worldH X V) (worldH X' W') ∧ V.ticks 0 10 = W'.ticks 0 (10 - i))
    (σ' := [(3, .int .i64 ((0 : Nat) : Int)), (1, .pointer (some ⟨X.w, 0, none⟩))]) (n := 10) ⟨rfl, rfl, trivial⟩ ⟨0, X, V, rfl, rfl, Nat.zero_le _, rfl, hst, Turns.refl hst.has, rfl⟩ ?_
  rintro _ w2 r ⟨i, X', W', rfl, rfl, hi, hw, hst2, hT, hr⟩
  (conv => whnf)
  refine brD (fun h3 => ?_) (fun h3 => ?_)
  · obtain ⟨j, hj⟩ : ∃ j, 10 - i = j + 1 := ⟨10 - i - 1, by omega⟩
    rw [hj] at hr
    (conv => whnf)
    rw [← hw]
    refine (wtick_ok 0 hst2 (by omega)).mono ?_
    rintro v w3 ⟨rfl, X3, hw3, hT3⟩
    have hst3 := hst2.turns hT3 (hst2.ok.tick (by omega) 0)
    have he : (W'.tick 0).1 = 0 := by
      refine Classical.byContradiction fun h => ?_
      rw [hr, show W'.ticks 0 (j + 1) = if (W'.tick 0).1 ≠ 0 then W'.tick 0 else (W'.tick 0).2.ticks 0 j from rfl, if_pos h] at b1
      exact h b1
    have hr2 : V.ticks 0 10 = (W'.tick 0).2.ticks 0 j := by
      rw [hr, show W'.ticks 0 (j + 1) = if (W'.tick 0).1 ≠ 0 then W'.tick 0 else (W'.tick 0).2.ticks 0 j from rfl, if_neg (fun h => h he)]
    rw [he]
    (conv => whnf)
    refine RngC.mk (by omega) (by omega) ?_
    (conv => whnf)
    refine LoopE.mk ⟨_, [(3, .int .i64 ((i + 1 : Nat) : Int)), (1, .pointer (some ⟨X'.w, 0, none⟩))], ?_, ⟨rfl, rfl, trivial⟩, ⟨i + 1, X3, (W'.tick 0).2, rfl, rfl, by omega, hw3, hst3, hT.trans hT3, by rw [hr2]; congr 1; omega⟩⟩
    omega
  · obtain rfl : i = 10 := by omega
    rw [hr] at b1 b2 b3 b4 b5 b6 b7 b8
    change W'.to = _ at b2
    change W'.epoch = _ at b3
    change W'.fly.length = _ at b4
    change (W'.deliver 0).1 = _ at b5
    change (W'.deliver 0).2.to = _ at b6
    change (W'.deliver 0).2.epoch = _ at b7
    change (W'.deliver 0).2.events.length = _ at b8
    rw [← hw]
    (conv => whnf)
    refine (wswitch_ok hst2.has).mono ?_
    rintro v w3 ⟨rfl, hx3⟩
    rw [b2, b3]
    have hst3 := hst2.no hx3
    (conv => whnf)
    refine (wflying_ok hst3).mono ?_
    rintro v w4 ⟨a', c', vs', rfl, hx4, _⟩
    have hst4 := hst3.no hx4
    rw [b4]
    (conv => whnf)
    refine (wdeliver_ok 0 hst4).mono ?_
    rintro v w5 ⟨rfl, X5, hw5, hT5⟩
    rw [b5, ← hw5]
    have hst5 := hst4.turns hT5 (hst4.ok.deliver 0)
    (conv => whnf)
    refine (wswitch_ok hst5.has).mono ?_
    rintro v w6 ⟨rfl, hx6⟩
    rw [b6, b7]
    have hst6 := hst5.no hx6
    (conv => whnf)
    refine (wevents_ok hst6).mono ?_
    rintro v w7 ⟨a7, c7, rfl, hx7, _⟩
    rw [b8]
    repeat' ((conv => whnf); first | refine RetC.mk ?_ | refine NzC.mk (by decide) ?_ | refine RngC.mk (by omega) (by omega) ?_ | refine IdxC.mk (by omega) (by omega) ?_ | refine brD (fun _ => ?_) (fun _ => ?_) | refine brND (fun _ => ?_) (fun _ => ?_) | refine brN (fun _ => ?_) (fun _ => ?_) | refine brI (fun _ => ?_) (fun _ => ?_))
    refine ⟨rfl, ?_⟩
    have hT7 := (((hT.trans (Turns.of_no hst2.has (hx3.trans hx4))).trans hT5).trans (Turns.of_no hst5.has (hx6.trans hx7)))
    exact Ext.new_of hx hf hT7
end
end Go.Proofs.YtoaghhcjlfiflaaDoor

namespace Go.Proofs.YtoaghhcjlfiflaaDoor
open Go Ev
section
variable {w : World} {b : Nat} {r : RoleS}
end
end Go.Proofs.YtoaghhcjlfiflaaDoor

namespace Go.Proofs.YtoaghhcjlfiflaaDoor
open Go Ev

end Go.Proofs.YtoaghhcjlfiflaaDoor

namespace Go.Proofs.YtoaghhcjlfiflaaDoor
open Go Ev

end Go.Proofs.YtoaghhcjlfiflaaDoor

namespace Go.Proofs.YtoaghhcjlfiflaaDoor
open Go Ev

structure RBy where
  data : List UInt8
  off : Bool
  left : Int
  bnd : Bool
section
variable {w : World} {b : Nat} {B : BytS} {R : RBy}
end
end Go.Proofs.YtoaghhcjlfiflaaDoor

namespace Go.Proofs.YtoaghhcjlfiflaaDoor
open Go Ev

def RBy.cutN (R : RBy) (m : Nat) : Nat := if R.off = true then 0 else if R.bnd = true ∧ R.left < m then R.left.toNat else m
def RBy.offN (R : RBy) (m : Nat) : Bool := if R.off = true then true else if R.bnd = true ∧ R.left < m then true else false
def RBy.write (R : RBy) (p : Nat) (s : List UInt8) : Bool × RBy := (!R.offN s.length, ⟨laid R.data p (s.take (R.cutN s.length)), R.offN s.length, R.left - R.cutN s.length, R.bnd⟩)
section
variable {w : World} {b : Nat} {R : RBy}
end
end Go.Proofs.YtoaghhcjlfiflaaDoor

namespace Go.Proofs.YtoaghhcjlfiflaaDoor
open Go Ev

section
variable {w : World} {b c : Nat} {R : RBy}
end
end Go.Proofs.YtoaghhcjlfiflaaDoor

namespace Go.Proofs.YtoaghhcjlfiflaaDoor
open Go Ev

section
variable {w : World} {b c : Nat} {B : BytS} {R : RBy}
end
end Go.Proofs.YtoaghhcjlfiflaaDoor

namespace Go.Proofs.YtoaghhcjlfiflaaDoor
open Go Ev

structure RNodeA where
  n : Nat
  r : Nat
  c : Nat
  t : Nat
  tg : Nat
  tc : Nat
  x : Nat
  xg : Nat
  xc : Nat
  m : Nat
  mg : Nat
  mc : Nat
  b : Nat
  ra : Option Addr
  rc : Nat
section
variable {w : World} {A : RNodeA} {N : NodeS} {R : RBy}
end
end Go.Proofs.YtoaghhcjlfiflaaDoor

namespace Go.Proofs.YtoaghhcjlfiflaaDoor
open Go Ev

section
variable {w : World} {b : Nat} {r : RoleS}

end

end Go.Proofs.YtoaghhcjlfiflaaDoor

namespace Go.Proofs.YtoaghhcjlfiflaaDoor
open Go Ev
section
variable {w : World} {A : RNodeA} {N : NodeS} {R : RBy} {B : BytS}
end
end Go.Proofs.YtoaghhcjlfiflaaDoor

namespace Go.Proofs.YtoaghhcjlfiflaaDoor
open Go Ev
section
variable {w : World} {A : RNodeA} {N : NodeS} {R : RBy} {B : BytS}
end
end Go.Proofs.YtoaghhcjlfiflaaDoor

namespace Go.Proofs.YtoaghhcjlfiflaaDoor
open Go Ev
section
variable {w : World}
end
end Go.Proofs.YtoaghhcjlfiflaaDoor

namespace Go.Proofs.YtoaghhcjlfiflaaDoor
open Go Ev
theorem Ev.St.madeAll {w0 w w' : World} {S : Nat → Prop} {H L : List Ent} (h : St w0 S w H) (hx : Ext No w w') (hL : Has w' L) (hf : ∀ b, inF L b → w.heap.size ≤ b) : St w0 S w' (H ++ L) := by
  have h1 := h.no hx
  refine ⟨h1.ext, ?_, ?_, ?_, ?_⟩
  · intro e he
    rcases List.mem_append.1 he with he | he
    · exact h1.each e he
    · exact hL.each e he
  · intro e he
    rcases List.mem_append.1 he with he | he
    · exact h1.loc e he
    · exact hL.loc e he
  · intro e he b hb
    rcases List.mem_append.1 he with he | he
    · exact h1.may e he b hb
    · exact ⟨.inr (Nat.le_trans h.ext.size (hf b ⟨e, he, hb⟩)), hL.lt e he b hb⟩
  · refine List.pairwise_append.2 ⟨h1.apart, hL.apart, fun e he f hf' b hb hb' => ?_⟩
    have h2 := (h.may e he b hb).2
    have h3 := hf b ⟨f, hf', hb'⟩
    omega
theorem Ev.St.frontOut {w0 w : World} {S : Nat → Prop} {e : Ent} {H : List Ent} (h : St w0 S w (e :: H)) {b : Nat} (hb : b ∈ e.foot) : ¬ inF H b := by
  rintro ⟨f, hf, hbf⟩
  exact (List.pairwise_cons.1 h.apart).1 f hf b hb hbf
theorem Ev.St.new_high {w0 w : World} {H : List Ent} (h : St w0 No w H) {b : Nat} (hb : inF H b) : w0.heap.size ≤ b := by
  obtain ⟨e, he, hb⟩ := hb
  exact (h.may e he b hb).1.elim (fun h => h.elim) id
section
variable {w w' : World}
theorem St.stands {E : Nat → Addr} {m : Nat} {w0 : World} {X : WorldA} {V : WorldS} {P R : List Ent} (hS : St w0 No w (P ++ (worldH X V ++ R))) (hE : Errs w0 E w0.heap.size insErrs) (ok : WOk m V) : Stands E w0.heap.size m w X V :=
  ⟨hS.has.right.left, ok, hE.ext hS.ext fun _ h => h.elim, fun _ hb => hS.new_high (inF_app.2 (.inr (inF_app.2 (.inl hb))))⟩
end
end Go.Proofs.YtoaghhcjlfiflaaDoor
