/-
  Texts of this claim, joined: WorldH, WorldA, WorldB, WorldC, WorldD, WorldE, NoteC, LoopB, Wakes, WorldF, WorldG, Play, PlayB, PlayC, PlayD, RefNum, BornW, RefHear, RefSum, RefByt, RefBytW, RefOpen, RefCell, RefNode, RefRole, RefNodeT, RefNodeN, NodeL, LawW, RWorldH, RWorldA, RWorldB, RWorldC, RWorldD, RWorldE, RWorldF, RPlay, RPlayB, RPlayC, NodeM, AsW, StepW, PolicyS, Leave.
-/
import Derived.Test.YtogjajjdaoihdaaGreatDoorScriptAgainE
import Derived.Lib.BufferWrite
import Derived.Leaving
import Derived.Conc.Holds
import Derived.SevenTiedAt

namespace Go.Proofs.YtogjajjdaoihdaaGreatDoor
set_option maxRecDepth 20000
open Go Ev
theorem Ev.inF_perm {H H' : List Ent} (hp : H.Perm H') {b : Nat} (h : inF H b) : inF H' b := by
 obtain ⟨e, he, hb⟩ := h
 exact ⟨e, hp.mem_iff.1 he, hb⟩
theorem Ev.St.perm {w0 w : World} {S : Nat → Prop} {H H' : List Ent} (h : St w0 S w H) (hp : H.Perm H') : St w0 S w H' :=
 ⟨h.ext, fun e he => h.each e (hp.mem_iff.2 he), fun e he => h.loc e (hp.mem_iff.2 he), fun e he => h.may e (hp.mem_iff.2 he), (hp.pairwise_iff (fun {a b} h => apart_symm' a b h)).1 h.apart⟩
theorem Ev.Has.perm {w : World} {H H' : List Ent} (h : Has w H) (hp : H.Perm H') : Has w H' :=
 ⟨fun e he => h.each e (hp.mem_iff.2 he), fun e he => h.loc e (hp.mem_iff.2 he), fun e he => h.lt e (hp.mem_iff.2 he), (hp.pairwise_iff (fun {a b} h => apart_symm' a b h)).1 h.apart⟩
theorem Ev.Turns.perm {w w' : World} {H H' G G' : List Ent} (k : Turns w w' H G) (hp : H.Perm H') (hq : G.Perm G') : Turns w w' H' G' :=
 ⟨k.ext.mono fun _ hb => inF_perm hp hb, k.has.perm hq, fun e he b hb => (k.foot e (hq.mem_iff.2 he) b hb).imp (inF_perm hp) id⟩
theorem High.turns {w w' : World} {H H' : List Ent} {q : Nat} (h : High H q) (hq : q ≤ w.heap.size) (k : Turns w w' H H') : High H' q := fun b ⟨e, he, hb⟩ => (k.foot e he b hb).elim (h b) (fun g => Nat.le_trans hq g)
theorem High.perm {H H' : List Ent} {q : Nat} (h : High H q) (hp : H.Perm H') : High H' q := fun b hb => h b (inF_perm hp.symm hb)
theorem High.app {A B : List Ent} {q : Nat} (h : High (A ++ B) q) : High A q ∧ High B q := ⟨fun b hb => h b (inF_app.2 (.inl hb)), fun b hb => h b (inF_app.2 (.inr hb))⟩
theorem Errs.turns {w w' : World} {E : Nat → Addr} {q : Nat} {ks : List Nat} {H H' : List Ent} (h : Errs w E q ks) (hH : High H q) (k : Turns w w' H H') : Errs w' E q ks := h.ext k.ext hH
theorem size_of_high {w : World} {H : List Ent} {q b : Nat} (hH : High H q) (hw : Has w H) (hb : inF H b) : q ≤ w.heap.size := by
 have h1 := hH b hb
 obtain ⟨e, he, hb⟩ := hb
 have h2 := hw.lt e he b hb
 omega

structure SideA where
 s : Nat
 A : NodeA
structure WorldA where
 w : Nat
 a : SideA
 b : SideA
 ra : Option Addr
 rc : Nat
 fa : Option Addr
 fc : Nat
 vs : List NoteV
 ea : Option Addr
 ec : Nat
def WorldA.side (X : WorldA) (n : Int) : SideA := if n = 0 then X.a else X.b
def WorldA.setSide (X : WorldA) (n : Int) (Y : SideA) : WorldA := if n = 0 then { X with a := Y } else { X with b := Y }
def nodeP (Y : SideA) (s : SideS) : Option Addr := match s.node with | some _ => some ⟨Y.A.n, 0, none⟩ | none => none
def encSide (Y : SideA) (s : SideS) : List Value := [.pointer (nodeP Y s), .pointer (some ⟨Y.A.b, 0, none⟩)]
def encWorld (X : WorldA) (W : WorldS) : List Value := [.pointer (some ⟨X.a.s, 0, none⟩), .pointer (some ⟨X.b.s, 0, none⟩), .slice X.ra W.rules.length X.rc, .slice X.fa W.fly.length X.fc, .int .i64 W.to, .int .i64 W.epoch, .slice X.ea W.events.length X.ec]
def encEv (e : Int × Int) : List Value := [.int .i64 e.1, .int .i64 e.2]
theorem codEv : Codec 2 encEv := ⟨fun _ => rfl, fun _ => rfl, by decide⟩
def sideH (Y : SideA) (s : SideS) : List Ent := match s.node with
 | some N => nodeB Y.A N s.byt
 | none => [blk Y.A.b 253 (encBy s.byt)]
def fixH (X : WorldA) (W : WorldS) (Y Z : SideA) (s t : SideS) : List Ent := [blk X.w 162 (encWorld X W), blk Y.s 169 (encSide Y s), blk Z.s 169 (encSide Z t), ownL 98 5 encRule (.slice X.ra W.rules.length X.rc) W.rules, ownL 350 5 encNV (.slice X.fa W.fly.length X.fc) X.vs, cellsE X.vs W.fly, ownL 157 2 encEv (.slice X.ea W.events.length X.ec) W.events]
def worldH (X : WorldA) (W : WorldS) : List Ent := fixH X W X.a X.b W.a W.b ++ (sideH X.a W.a ++ sideH X.b W.b)
def viewH (X : WorldA) (W : WorldS) (n : Int) : List Ent := fixH X W (X.side n) (X.side (1 - n)) (W.side n) (W.side (1 - n)) ++ (sideH (X.side n) (W.side n) ++ sideH (X.side (1 - n)) (W.side (1 - n)))
theorem view_perm (X : WorldA) (W : WorldS) {n : Int} (hn : n = 0 ∨ n = 1) : (worldH X W).Perm (viewH X W n) := by
 rcases hn with rfl | rfl
 · exact List.Perm.refl _
 · unfold worldH viewH
   refine List.Perm.append ?_ List.perm_append_comm
   exact List.Perm.cons _ (List.Perm.swap _ _ _)
section
variable {w w' : World} {X : WorldA} {W : WorldS}
structure Stands (E : Nat → Addr) (q m : Nat) (w : World) (X : WorldA) (W : WorldS) : Prop where
 has : Has w (worldH X W)
 ok : WOk m W
 errs : Errs w E q insErrs
 high : High (worldH X W) q
variable {E : Nat → Addr} {q m : Nat}
theorem Stands.size (h : Stands E q m w X W) : q ≤ w.heap.size := size_of_high h.high h.has (b := X.w) ⟨_, List.mem_of_getElem? (i := 0) rfl, List.mem_singleton.2 rfl⟩
theorem Stands.turns {m' : Nat} {X' : WorldA} {W' : WorldS} (h : Stands E q m w X W) (k : Turns w w' (worldH X W) (worldH X' W')) (ok : WOk m' W') : Stands E q m' w' X' W' :=
 ⟨k.has, ok, h.errs.turns h.high k, h.high.turns h.size k⟩
theorem Stands.no (h : Stands E q m w X W) (hx : Ext No w w') : Stands E q m w' X W := h.turns (Turns.of_no h.has hx) h.ok
theorem Stands.view (h : Stands E q m w X W) {n : Int} (hn : n = 0 ∨ n = 1) : Has w (viewH X W n) ∧ High (viewH X W n) q := ⟨h.has.perm (view_perm X W hn), h.high.perm (view_perm X W hn)⟩
theorem Turns.unview {n : Int} (hn : n = 0 ∨ n = 1) {X' : WorldA} {W' : WorldS} (k : Turns w w' (viewH X W n) (viewH X' W' n)) : Turns w w' (worldH X W) (worldH X' W') := k.perm (view_perm X W hn).symm (view_perm X' W' hn).symm
theorem Ev.Turns.frame {A B R : List Ent} (h : Has w (A ++ R)) (k : Turns w w' A B) : Turns w w' (A ++ R) (B ++ R) := (h.start.call k).turns
def halfH (X : WorldA) (W : WorldS) (n : Int) : List Ent := fixH X W (X.side n) (X.side (1 - n)) (W.side n) (W.side (1 - n)) ++ sideH (X.side n) (W.side n)
theorem view_half (X : WorldA) (W : WorldS) (n : Int) : viewH X W n = halfH X W n ++ sideH (X.side (1 - n)) (W.side (1 - n)) := by
 unfold viewH halfH
 rw [List.append_assoc]
theorem Stands.half (h : Stands E q m w X W) {n : Int} (hn : n = 0 ∨ n = 1) : Has w (halfH X W n) ∧ High (halfH X W n) q := by
 obtain ⟨h1, h2⟩ := h.view hn
 rw [view_half] at h1 h2
 exact ⟨h1.left, h2.app.1⟩
theorem Turns.world (h : Has w (worldH X W)) {n : Int} (hn : n = 0 ∨ n = 1) {X' : WorldA} {W' : WorldS} (k : Turns w w' (halfH X W n) (halfH X' W' n)) (hx : X'.side (1 - n) = X.side (1 - n)) (hw : W'.side (1 - n) = W.side (1 - n)) : Turns w w' (worldH X W) (worldH X' W') := by
 have h1 := h.perm (view_perm X W hn)
 rw [view_half] at h1
 refine Turns.unview hn ?_
 rw [view_half, view_half, hx, hw]
 exact Turns.frame h1 k
theorem side_set {n : Int} (hn : n = 0 ∨ n = 1) (Y : SideA) (s : SideS) : (X.setSide n Y).side n = Y ∧ (X.setSide n Y).side (1 - n) = X.side (1 - n) ∧ (W.setSide n s).side n = s ∧ (W.setSide n s).side (1 - n) = W.side (1 - n) := by
 rcases hn with rfl | rfl <;> exact ⟨rfl, rfl, rfl, rfl⟩
theorem half_set {n : Int} (hn : n = 0 ∨ n = 1) {Y : SideA} (hY : Y.s = (X.side n).s) (s : SideS) : halfH (X.setSide n Y) (W.setSide n s) n = fixH X W Y (X.side (1 - n)) s (W.side (1 - n)) ++ sideH Y s := by
 rcases hn with rfl | rfl
 · show _ ++ _ = _ ++ _
   congr 1
   show [blk X.w 162 [.pointer (some ⟨Y.s, 0, none⟩), _, _, _, _, _, _], _, _, _, _, _, _] = _
   rw [hY]
   rfl
 · show _ ++ _ = _ ++ _
   congr 1
   show [blk X.w 162 [_, .pointer (some ⟨Y.s, 0, none⟩), _, _, _, _, _], _, _, _, _, _, _] = _
   rw [hY]
   rfl
theorem Turns.side (h : Has w (worldH X W)) {n : Int} (hn : n = 0 ∨ n = 1) {Y : SideA} (hY : Y.s = (X.side n).s) {s : SideS} (k : Turns w w' (halfH X W n) (fixH X W Y (X.side (1 - n)) s (W.side (1 - n)) ++ sideH Y s)) : Turns w w' (worldH X W) (worldH (X.setSide n Y) (W.setSide n s)) := by
 rw [← half_set hn hY s] at k
 exact Turns.world h hn k (side_set (W := W) hn Y s).2.1 (side_set (X := X) hn Y s).2.2.2
theorem Stands.of_half (h : Stands E q m w X W) {n : Int} (hn : n = 0 ∨ n = 1) (k : Turns w w' (halfH X W n) (halfH X W n)) : Stands E q m w' X W := h.turns (Turns.world h.has hn k rfl rfl) h.ok
theorem Ev.St.notin {w0 w : World} {S : Nat → Prop} {L : List Ent} (h : St w0 S w L) (i p n : Nat) {e : Ent} {b : Nat} (hi : L[i]? = some e) (hb : b ∈ e.foot) (hp : i < p ∨ p + n ≤ i) : ¬ inF ((L.drop p).take n) b := by
 rintro ⟨f, hf, hbf⟩
 obtain ⟨j, hj⟩ := List.getElem?_of_mem hf
 rw [List.getElem?_take] at hj
 split at hj
 · rw [List.getElem?_drop] at hj
   exact h.apartAt i (p + j) hi hj (by omega) b hb hbf
 · cases hj
end
end Go.Proofs.YtogjajjdaoihdaaGreatDoor

namespace Go.Proofs.YtogjajjdaoihdaaGreatDoor
set_option maxRecDepth 20000
open Go Ev
section
variable {w w' : World} {X : WorldA} {W : WorldS} {E : Nat → Addr} {q m : Nat}
theorem encSide_some {Y : SideA} {s : SideS} {N : NodeS} (h : s.node = some N) : encSide Y s = [.pointer (some ⟨Y.A.n, 0, none⟩), .pointer (some ⟨Y.A.b, 0, none⟩)] := by
 unfold encSide nodeP
 rw [h]
theorem encSide_none {Y : SideA} {s : SideS} (h : s.node = none) : encSide Y s = [.pointer none, .pointer (some ⟨Y.A.b, 0, none⟩)] := by
 unfold encSide nodeP
 rw [h]
theorem sideH_some {Y : SideA} {s : SideS} {N : NodeS} (h : s.node = some N) : sideH Y s = nodeB Y.A N s.byt := by
 unfold sideH
 rw [h]
theorem sideH_none {Y : SideA} {s : SideS} (h : s.node = none) : sideH Y s = [blk Y.A.b 253 (encBy s.byt)] := by
 unfold sideH
 rw [h]
theorem upErr_some {n : Int} {N : NodeS} (hn : n = 0 ∨ n = 1) (h : (W.side n).node = some N) : W.upErr n = 0 := by
 unfold WorldS.upErr
 rw [if_neg (by omega), h]
theorem upErr_none {n : Int} (hn : n = 0 ∨ n = 1) (h : (W.side n).node = none) : W.upErr n = 7 := by
 unfold WorldS.upErr
 rw [if_neg (by omega), h]
theorem wup_ok (n : Int) (h : Stands E q m w X W) : CallC Tryz.prog 225 #[.pointer (some ⟨X.w, 0, none⟩), .int .i64 n] w fun v w' => v = .tuple #[.pointer (if W.upErr n = 0 then some ⟨(X.side n).s, 0, none⟩ else none), errV E (W.upErr n)] ∧ Ext No w w' := by
 by_cases hn : n = 0 ∨ n = 1
 · obtain ⟨hV, hQ⟩ := h.view hn
   have hqF : ∀ b, inF (viewH X W n) b → q ≤ b := hQ
   cases hN : (W.side n).node with
   | none =>
     rw [upErr_none hn hN, if_neg (by decide)]
     rcases hn with rfl | rfl
     all_goals
       refine fn_intro tabOk Tryz.func225 (by kernel_rfl) rfl Tryz.ntmps225 (lbO rfl) ?_
       have hS := hV.start
       conv=>whnf
       refine IdxC.mk (by decide) (by decide) ?_
       conv=>whnf
       refine hS.ld 0 rfl rfl ?_
       conv=>whnf
       refine hS.ld 1 rfl (v := .pointer none) (by rw [encSide_none hN]; rfl) ?_
       conv=>whnf
       (refine drawS tabOk mixed [] No [0, 1, 2] (by kernel_rfl) ?_; rintro w1 rfl; replace hS := hS.drew)
       repeat' ((conv => whnf); first | refine RetC.mk ?_ | refine nzO ?_ | refine rgO ?_ | refine ixO ?_ | refine hS.ldrF (h.errs.at_ 7 rfl) (Errs.out h.errs 7 rfl hqF) id ?_ | (first|apply brD|apply brND|apply brN|apply brI) <;> (intro))
       exact ⟨rfl, Ext.drawn _ _ _⟩
   | some N =>
     rw [upErr_some hn hN, if_pos rfl]
     rcases hn with rfl | rfl
     all_goals
       refine fn_intro tabOk Tryz.func225 (by kernel_rfl) rfl Tryz.ntmps225 (lbO rfl) ?_
       have hS := hV.start
       conv=>whnf
       refine IdxC.mk (by decide) (by decide) ?_
       conv=>whnf
       refine hS.ld 0 rfl rfl ?_
       conv=>whnf
       refine hS.ld 1 rfl (v := .pointer (some ⟨(X.side _).A.n, 0, none⟩)) (by rw [encSide_some hN]; rfl) ?_
       conv=>whnf
       refine IdxC.mk (by decide) (by decide) ?_
       conv=>whnf
       refine hS.ld 0 rfl rfl ?_
       repeat' ((conv => whnf); first | refine RetC.mk ?_ | refine nzO ?_ | refine rgO ?_ | refine ixO ?_ | (first|apply brD|apply brND|apply brN|apply brI) <;> (intro))
       exact ⟨rfl, Ext.refl _ _⟩
 · have hu : W.upErr n = 2 := if_pos (by omega)
   rw [hu, if_neg (by decide)]
   have hqF : ∀ b, inF (worldH X W) b → q ≤ b := h.high
   refine fn_intro tabOk Tryz.func225 (by kernel_rfl) rfl Tryz.ntmps225 (lbO rfl) ?_
   have hS := h.has.start
   conv=>whnf
   refine brND (fun h1 => ?_) (fun h1 => absurd (.inl h1) hn)
   conv=>whnf
   refine brND (fun h1 => ?_) (fun h1 => absurd (.inr h1) hn)
   conv=>whnf
   (refine drawS tabOk mixed [] No [0, 1, 2] (by kernel_rfl) ?_; rintro w1 rfl; replace hS := hS.drew)
   repeat' ((conv => whnf); first | refine RetC.mk ?_ | refine nzO ?_ | refine rgO ?_ | refine ixO ?_ | refine hS.ldrF (h.errs.at_ 2 rfl) (Errs.out h.errs 2 rfl hqF) id ?_ | (first|apply brD|apply brND|apply brN|apply brI) <;> (intro))
   exact ⟨rfl, Ext.drawn _ _ _⟩
theorem wfly_ok (h : Has w (worldH X W)) : CallC Tryz.prog 154 #[.pointer (some ⟨X.w, 0, none⟩)] w fun v w' => v = .int .i64 (W.fly.length : Nat) ∧ w = w' := by
 refine fn_intro tabOk Tryz.func154 (by kernel_rfl) rfl Tryz.ntmps154 (lbO rfl) ?_
 have hS := h.start
 conv=>whnf
 refine hS.ld 0 rfl rfl ?_
 repeat' ((conv => whnf); first | refine RetC.mk ?_ | refine nzO ?_ | refine rgO ?_ | refine ixO ?_ | (first|apply brD|apply brND|apply brN|apply brI) <;> (intro))
 exact ⟨rfl, rfl⟩
theorem wswitch_ok (h : Has w (worldH X W)) : CallC Tryz.prog 159 #[.pointer (some ⟨X.w, 0, none⟩)] w fun v w' => v = .tuple #[.int .i64 W.to, .int .i64 W.epoch] ∧ Ext No w w' := by
 refine fn_intro tabOk Tryz.func159 (by kernel_rfl) rfl Tryz.ntmps159 (lbO rfl) ?_
 have hS := h.start
 conv=>whnf
 (refine drawS tabOk mixed [] No [0, 1, 2, 3, 4, 5, 6, 7, 8, 9] (by kernel_rfl) ?_; rintro w1 rfl; replace hS := hS.drew)
 repeat' ((conv => whnf); first | refine RetC.mk ?_ | refine nzO ?_ | refine rgO ?_ | refine ixO ?_ | refine hS.ldF 0 rfl rfl id ?_ | (first|apply brD|apply brND|apply brN|apply brI) <;> (intro))
 exact ⟨rfl, Ext.drawn _ _ _⟩
theorem wnode_ok (n : Int) (h : Stands E q m w X W) : CallC Tryz.prog 156 #[.pointer (some ⟨X.w, 0, none⟩), .int .i64 n] w fun v w' => v = .tuple #[.pointer (if W.upErr n = 0 then some ⟨(X.side n).A.n, 0, none⟩ else none), errV E (W.upErr n)] ∧ Ext No w w' := by
 refine fn_intro tabOk Tryz.func156 (by kernel_rfl) rfl Tryz.ntmps156 (lbO rfl) ?_
 conv=>whnf
 refine (wup_ok n h).mono ?_
 rintro v w1 ⟨rfl, hx⟩
 by_cases hu : W.upErr n = 0
 · obtain ⟨hn, N, hN⟩ := upErr_in hu
   rw [hu, if_pos rfl, if_pos rfl]
   have hS := ((h.view hn).1.read hx).start
   conv=>whnf
   refine hS.ld 1 rfl (v := .pointer (some ⟨(X.side n).A.n, 0, none⟩)) (by rw [encSide_some hN]; rfl) ?_
   repeat' ((conv => whnf); first | refine RetC.mk ?_ | refine nzO ?_ | refine rgO ?_ | refine ixO ?_ | (first|apply brD|apply brND|apply brN|apply brI) <;> (intro))
   exact ⟨rfl, hx⟩
 · rw [if_neg hu, if_neg hu]
   obtain ⟨j, hj⟩ : ∃ j, W.upErr n = j + 1 := ⟨W.upErr n - 1, by omega⟩
   rw [hj]
   repeat' ((conv => whnf); first | refine RetC.mk ?_ | refine nzO ?_ | refine rgO ?_ | refine ixO ?_ | (first|apply brD|apply brND|apply brN|apply brI) <;> (intro))
   exact ⟨rfl, hx⟩
theorem whand_ok (h : Stands E q m w X W) : CallC Tryz.prog 133 #[.pointer (some ⟨X.w, 0, none⟩)] w fun v w' => v = .tuple #[.pointer (if W.handErr = 0 then some ⟨(X.side W.to).s, 0, none⟩ else none), errV E W.handErr] ∧ Ext No w w' := by
 have hqF : ∀ b, inF (worldH X W) b → q ≤ b := h.high
 refine fn_intro tabOk Tryz.func133 (by kernel_rfl) rfl Tryz.ntmps133 (lbO rfl) ?_
 have hS := h.has.start
 conv=>whnf
 refine hS.ld 0 rfl rfl ?_
 conv=>whnf
 refine brD (fun h1 => ?_) (fun h1 => ?_)
 · have hu : W.handErr = 4 := if_pos h1
   rw [hu, if_neg (by decide)]
   conv=>whnf
   (refine drawS tabOk mixed [] No [0, 1, 2] (by kernel_rfl) ?_; rintro w1 rfl; replace hS := hS.drew)
   repeat' ((conv => whnf); first | refine RetC.mk ?_ | refine nzO ?_ | refine rgO ?_ | refine ixO ?_ | refine hS.ldrF (h.errs.at_ 4 rfl) (Errs.out h.errs 4 rfl hqF) id ?_ | (first|apply brD|apply brND|apply brN|apply brI) <;> (intro))
   exact ⟨rfl, Ext.drawn _ _ _⟩
 · have hu : W.handErr = W.upErr W.to := if_neg h1
   rw [hu]
   conv=>whnf
   refine hS.ld 0 rfl rfl ?_
   conv=>whnf
   refine (wup_ok W.to h).mono ?_
   rintro v w1 ⟨rfl, hx⟩
   repeat' ((conv => whnf); first | refine RetC.mk ?_ | refine nzO ?_ | refine rgO ?_ | refine ixO ?_ | (first|apply brD|apply brND|apply brN|apply brI) <;> (intro))
   exact ⟨rfl, hx⟩
theorem wat_ok (k : Int) (h : Stands E q m w X W) : CallC Tryz.prog 233 #[.pointer (some ⟨X.w, 0, none⟩), .int .i64 k] w fun v w' => v = errV E (W.at_ k) ∧ Ext No w w' := by
 have hqF : ∀ b, inF (worldH X W) b → q ≤ b := h.high
 refine fn_intro tabOk Tryz.func233 (by kernel_rfl) rfl Tryz.ntmps233 (lbO rfl) ?_
 have hS := h.has.start
 conv=>whnf
 refine brD (fun h1 => ?_) (fun h1 => ?_)
 · have hu : W.at_ k = 4 := if_pos (.inl h1)
   rw [hu]
   repeat' ((conv => whnf); first | refine RetC.mk ?_ | refine nzO ?_ | refine rgO ?_ | refine ixO ?_ | refine hS.ldr (h.errs.at_ 4 rfl) (Errs.out h.errs 4 rfl hqF) ?_ | (first|apply brD|apply brND|apply brN|apply brI) <;> (intro))
   exact ⟨rfl, Ext.refl _ _⟩
 conv=>whnf
 refine hS.ld 0 rfl rfl ?_
 conv=>whnf
 refine brD (fun h2 => ?_) (fun h2 => ?_)
 · have hu : W.at_ k = 4 := if_pos (.inr h2)
   rw [hu]
   repeat' ((conv => whnf); first | refine RetC.mk ?_ | refine nzO ?_ | refine rgO ?_ | refine ixO ?_ | refine hS.ldr (h.errs.at_ 4 rfl) (Errs.out h.errs 4 rfl hqF) ?_ | (first|apply brD|apply brND|apply brN|apply brI) <;> (intro))
   exact ⟨rfl, Ext.refl _ _⟩
 · have hu : W.at_ k = 0 := if_neg (by omega)
   rw [hu]
   repeat' ((conv => whnf); first | refine RetC.mk ?_ | refine nzO ?_ | refine rgO ?_ | refine ixO ?_ | (first|apply brD|apply brND|apply brN|apply brI) <;> (intro))
   exact ⟨rfl, Ext.refl _ _⟩
end
end Go.Proofs.YtogjajjdaoihdaaGreatDoor

namespace Go.Proofs.YtogjajjdaoihdaaGreatDoor
set_option maxRecDepth 20000
open Go Ev
section
variable {w w' : World} {X : WorldA} {W : WorldS} {E : Nat → Addr} {q m : Nat}
theorem half_some {n : Int} {N : NodeS} (h : (W.side n).node = some N) : halfH X W n = fixH X W (X.side n) (X.side (1 - n)) (W.side n) (W.side (1 - n)) ++ nodeB (X.side n).A N (W.side n).byt := by
 unfold halfH
 rw [sideH_some h]
theorem fix_some {n : Int} {N : NodeS} {Y Z : SideA} {t : SideS} (h : (W.side n).node = some N) : fixH X W Y Z (W.side n) t = fixH X W Y Z ⟨some N, (W.side n).byt⟩ t := by
 unfold fixH
 rw [encSide_some h, encSide_some (s := ⟨some N, (W.side n).byt⟩) rfl]
theorem fix_none {n : Int} {Y Z : SideA} {t : SideS} (h : (W.side n).node = none) : fixH X W Y Z (W.side n) t = fixH X W Y Z ⟨none, (W.side n).byt⟩ t := by
 unfold fixH
 rw [encSide_none h, encSide_none (s := ⟨none, (W.side n).byt⟩) rfl]
theorem half_up {n : Int} {N : NodeS} (h : (W.side n).node = some N) : halfH X W n = fixH X W (X.side n) (X.side (1 - n)) ⟨some N, (W.side n).byt⟩ (W.side (1 - n)) ++ nodeB (X.side n).A N (W.side n).byt := by
 rw [half_some h, fix_some h]
theorem half_down {n : Int} (h : (W.side n).node = none) : halfH X W n = fixH X W (X.side n) (X.side (1 - n)) ⟨none, (W.side n).byt⟩ (W.side (1 - n)) ++ [blk (X.side n).A.b 253 (encBy (W.side n).byt)] := by
 unfold halfH
 rw [sideH_none h, fix_none h]
theorem setSide_id {n : Int} (hn : n = 0 ∨ n = 1) : X.setSide n (X.side n) = X := by
 rcases hn with rfl | rfl <;> rfl
theorem wdown_ok (n : Int) (h : Stands E q m w X W) : CallC Tryz.prog 146 #[.pointer (some ⟨X.w, 0, none⟩), .int .i64 n] w fun v w' => v = errV E (W.down n).1 ∧ Turns w w' (worldH X W) (worldH X (W.down n).2) := by
 refine fn_intro tabOk Tryz.func146 (by kernel_rfl) rfl Tryz.ntmps146 (lbO rfl) ?_
 conv=>whnf
 refine (wup_ok n h).mono ?_
 rintro v w1 ⟨rfl, hx⟩
 by_cases hu : W.upErr n = 0
 case neg =>
   obtain ⟨j, hj⟩ : ∃ j, W.upErr n = j + 1 := ⟨W.upErr n - 1, by omega⟩
   rw [show W.down n = (W.upErr n, W) from if_pos hu, hj]
   repeat' ((conv => whnf); first | refine RetC.mk ?_ | refine nzO ?_ | refine rgO ?_ | refine ixO ?_ | (first|apply brD|apply brND|apply brN|apply brI) <;> (intro))
   exact ⟨rfl, Turns.of_no h.has hx⟩
 obtain ⟨hn, N, hN⟩ := upErr_in hu
 rw [show W.down n = (0, W.setSide n ⟨none, { (W.side n).byt with off := true }⟩) from if_neg (fun h => h hu), hu, if_pos rfl]
 have hBk := (h.ok.side hn).bok
 have hH := (h.half hn).1
 have hT : ∀ {w'}, Turns w w' (halfH X W n) (fixH X W (X.side n) (X.side (1 - n)) ⟨none, { (W.side n).byt with off := true }⟩ (W.side (1 - n)) ++ [blk (X.side n).A.b 253 (encBy { (W.side n).byt with off := true })]) → Turns w w' (worldH X W) (worldH X (W.setSide n ⟨none, { (W.side n).byt with off := true }⟩)) := fun k => by
   have := Turns.side h.has hn (Y := X.side n) rfl (s := ⟨none, { (W.side n).byt with off := true }⟩) k
   rwa [setSide_id hn] at this
 have hS := hH.start.no hx
 rw [half_up hN] at hS hT
 generalize W.setSide n ⟨none, { (W.side n).byt with off := true }⟩ = W' at hT ⊢
 generalize (W.side n).byt = B at hS hT hBk ⊢
 clear hH hx
 conv=>whnf
 refine hS.ld 1 rfl rfl ?_
 conv=>whnf
 refine (boff_ok (hS.blk 14 rfl) hBk.len).mono ?_
 rintro v w' ⟨hx, hB⟩
 replace hS := hS.upd 14 rfl hx (fun c hc => by subst hc; exact List.mem_singleton.2 rfl) (blk_local _ _ _) hB (fun c hc => .inl hc)
 conv=>whnf
 refine hS.st 1 rfl (lbO rfl) rfl (fun w' hS => ?_)
 repeat' ((conv => whnf); first | refine RetC.mk ?_ | refine nzO ?_ | refine rgO ?_ | refine ixO ?_ | (first|apply brD|apply brND|apply brN|apply brI) <;> (intro))
 exact ⟨rfl, hT (St.turns (hS.sel [0, 1, 2, 3, 4, 5, 6, 14] (by decide)))⟩
theorem wcut_ok (n k : Int) (h : Stands E q m w X W) : CallC Tryz.prog 150 #[.pointer (some ⟨X.w, 0, none⟩), .int .i64 n, .int .i64 k] w fun v w' => v = errV E (W.cut n k).1 ∧ Turns w w' (worldH X W) (worldH X (W.cut n k).2) := by
 refine fn_intro tabOk Tryz.func150 (by kernel_rfl) rfl Tryz.ntmps150 (lbO rfl) ?_
 conv=>whnf
 refine (wup_ok n h).mono ?_
 rintro v w1 ⟨rfl, hx⟩
 by_cases hu : W.upErr n = 0
 case neg =>
   obtain ⟨j, hj⟩ : ∃ j, W.upErr n = j + 1 := ⟨W.upErr n - 1, by omega⟩
   rw [show W.cut n k = (W.upErr n, W) from if_pos hu, hj]
   repeat' ((conv => whnf); first | refine RetC.mk ?_ | refine nzO ?_ | refine rgO ?_ | refine ixO ?_ | (first|apply brD|apply brND|apply brN|apply brI) <;> (intro))
   exact ⟨rfl, Turns.of_no h.has hx⟩
 obtain ⟨hn, N, hN⟩ := upErr_in hu
 rw [show W.cut n k = (cutE (W.side n).byt k, W.setSide n ⟨(W.side n).node, cutB (W.side n).byt k⟩) from if_neg (fun h => h hu), hu, if_pos rfl, hN]
 have hBk := (h.ok.side hn).bok
 obtain ⟨hH, hQ⟩ := h.half hn
 have hT : ∀ {w'}, Turns w w' (halfH X W n) (fixH X W (X.side n) (X.side (1 - n)) ⟨some N, cutB (W.side n).byt k⟩ (W.side (1 - n)) ++ nodeB (X.side n).A N (cutB (W.side n).byt k)) → Turns w w' (worldH X W) (worldH X (W.setSide n ⟨some N, cutB (W.side n).byt k⟩)) := fun k => by
   have := Turns.side h.has hn (Y := X.side n) rfl k
   rwa [setSide_id hn] at this
 have hS := hH.start.no hx
 have hE := h.errs.ext hS.ext hQ
 rw [half_up hN] at hS hT hQ
 generalize W.setSide n ⟨some N, cutB (W.side n).byt k⟩ = W' at hT ⊢
 generalize (W.side n).byt = B at hS hT hBk hQ ⊢
 clear hH hx
 have hq : q ≤ (X.side n).A.b := hQ _ ⟨_, List.mem_of_getElem? (i := 14) rfl, List.mem_singleton.2 rfl⟩
 conv=>whnf
 refine hS.ld 1 rfl rfl ?_
 conv=>whnf
 refine (bcut_ok k (hS.blk 14 rfl) hBk.len (hE.sub rfl) hq).mono ?_
 rintro v w' ⟨rfl, hx, hB⟩
 replace hS := hS.upd 14 rfl hx (fun c hc => by subst hc; exact List.mem_singleton.2 rfl) (blk_local _ _ _) hB (fun c hc => .inl hc)
 repeat' ((conv => whnf); first | refine RetC.mk ?_ | refine nzO ?_ | refine rgO ?_ | refine ixO ?_ | (first|apply brD|apply brND|apply brN|apply brI) <;> (intro))
 exact ⟨rfl, hT (St.turns hS)⟩
theorem winside_ok (p : PktS) (h : Stands E q m w X W) (hm : m + 1 ≤ 50000000) : CallC Tryz.prog 77 #[.pointer (some ⟨X.w, 0, none⟩), .agg (encPkt p).toArray] w fun v w' => v = .tuple #[.agg (encPkt (W.inside p).2.1).toArray, errV E (W.inside p).1] ∧ Turns w w' (worldH X W) (worldH X (W.inside p).2.2) := by
 by_cases hu : W.handErr = 0
 case neg =>
   obtain ⟨j, hj⟩ : ∃ j, W.handErr = j + 1 := ⟨W.handErr - 1, by omega⟩
   rw [show W.inside p = (W.handErr, noPkt, W) from if_pos hu]
   refine fn_intro tabOk Tryz.func77 (by kernel_rfl) rfl Tryz.ntmps77 (lbO rfl) ?_
   have hS := St.start w No
   conv=>whnf
   refine hS.new (fun bp w1 hbp hS => ?_)
   conv=>whnf
   refine hS.new (fun br w2 hbr hS => ?_)
   replace hS : St w No w2 [blk bp 41 (encPkt p), blk br 41 (encPkt noPkt)] := hS
   conv=>whnf
   refine (whand_ok (h.no hS.ext)).mono ?_
   rintro v w3 ⟨rfl, hx⟩
   replace hS := hS.no hx
   rw [hj]
   conv=>whnf
   refine hS.st 1 rfl (lbO rfl) rfl (fun w' hS => ?_)
   conv=>whnf
   refine hS.laX 1 rfl rfl ?_
   repeat' ((conv => whnf); first | refine RetC.mk ?_ | refine nzO ?_ | refine rgO ?_ | refine ixO ?_ | (first|apply brD|apply brND|apply brN|apply brI) <;> (intro))
   exact ⟨rfl, Turns.of_no h.has hS.ext⟩
 obtain ⟨hn, N, hN⟩ := h.ok.hand hu
 have hnk := ((h.ok.side hn).node N hN).1
 have hw : W.inside p = ((N.inside p).1, (N.inside p).2.1, W.setSide W.to ⟨some (N.inside p).2.2, (W.side W.to).byt⟩) := by
   unfold WorldS.inside
   rw [if_neg (fun h => h hu), hN]
 rw [hw]
 obtain ⟨hH, hQ⟩ := h.half hn
 have hT : ∀ {w'}, Turns w w' (halfH X W W.to) (fixH X W (X.side W.to) (X.side (1 - W.to)) ⟨some (N.inside p).2.2, (W.side W.to).byt⟩ (W.side (1 - W.to)) ++ nodeB (X.side W.to).A (N.inside p).2.2 (W.side W.to).byt) → Turns w w' (worldH X W) (worldH X (W.setSide W.to ⟨some (N.inside p).2.2, (W.side W.to).byt⟩)) := fun k => by
   have := Turns.side h.has hn (Y := X.side W.to) rfl k
   rwa [setSide_id hn] at this
 refine fn_intro tabOk Tryz.func77 (by kernel_rfl) rfl Tryz.ntmps77 (lbO rfl) ?_
 have hS := hH.start
 rw [half_up hN] at hS
 conv=>whnf
 refine hS.new (fun bp w1 hbp hS => ?_)
 conv=>whnf
 refine hS.new (fun br w2 hbr hS => ?_)
 have hst : Stands E q m w2 X W := h.of_half hn (by rw [half_up hN]; exact (hS.keep 15).turns)
 conv=>whnf
 refine (whand_ok hst).mono ?_
 rintro v w3 ⟨rfl, hx⟩
 replace hS := hS.no hx
 rw [hu, if_pos rfl]
 rw [half_up hN] at hT hQ
 have hE := h.errs.ext hS.ext hQ
 have hQ' : High (nodeH (X.side W.to).A N) q := hQ.app.2.app.1
 have hs := hS.notin 1 7 7 rfl (List.mem_singleton.2 rfl) (.inl (by decide))
 have hp := hS.notin 15 7 7 rfl (List.mem_singleton.2 rfl) (.inr (by decide))
 have hs2 := hS.ne 1 16 rfl rfl (by decide)
 have hp2 := hS.ne 15 16 rfl rfl (by decide)
 generalize W.setSide W.to ⟨some (N.inside p).2.2, (W.side W.to).byt⟩ = W' at hT ⊢
 clear hst hx
 conv=>whnf
 (refine drawS tabOk mixed [] (fun b => inF (nodeH (X.side W.to).A N) b ∨ b = br) [0, 1, 2, 3, 4, 5, 6, 7, 8, 9] (by kernel_rfl) ?_; rintro w1 rfl; replace hS := hS.drew)
 have hK := hS.ref (fun b => inF (nodeH (X.side W.to).A N) b ∨ b = br)
 conv=>whnf
 refine hS.ldF 1 rfl (v := .pointer (some ⟨(X.side W.to).A.n, 0, none⟩)) rfl (fun h => h.elim hs hs2) ?_
 conv=>whnf
 refine hS.laXF 15 rfl rfl (fun h => h.elim hp hp2) ?_
 conv=>whnf
 have hw3 : Has _ (nodeH (X.side W.to).A N) := Has.left (B := [_, _, _]) (Has.right (A := [_, _, _, _, _, _, _]) hS.has)
 refine (ninside_ok p hw3 hnk hm (hE.ext (Ext.drawn No _ _) fun _ h => h.elim) hQ').mono ?_
 rintro v w' ⟨rfl, hk⟩
 replace hS := St.callAt (A := fixH X W (X.side W.to) (X.side (1 - W.to)) ⟨some N, (W.side W.to).byt⟩ (W.side (1 - W.to))) (B := [_, _, _]) hS hk
 replace hK := hK.trans (hk.ext.mono fun b hb => .inl hb)
 refine KeepC.mk hK ?_
 conv=>whnf
 refine hS.stK hK 16 rfl (lbO rfl) rfl (.inr rfl) (fun w' hK hS => KeepC.mk hK ?_)
 conv=>whnf
 refine hS.laX 16 rfl rfl ?_
 repeat' ((conv => whnf); first | refine RetC.mk ?_ | refine nzO ?_ | refine rgO ?_ | refine ixO ?_ | (first|apply brD|apply brND|apply brN|apply brI) <;> (intro))
 exact ⟨rfl, hT (hS.keep 15).turns⟩
theorem woutside_ok (p : PktS) (h : Stands E q m w X W) (hm : m + 1 ≤ 50000000) : CallC Tryz.prog 78 #[.pointer (some ⟨X.w, 0, none⟩), .agg (encPkt p).toArray] w fun v w' => v = .tuple #[.agg (encPkt (W.outside p).2.1).toArray, errV E (W.outside p).1] ∧ Turns w w' (worldH X W) (worldH X (W.outside p).2.2) := by
 by_cases hu : W.handErr = 0
 case neg =>
   obtain ⟨j, hj⟩ : ∃ j, W.handErr = j + 1 := ⟨W.handErr - 1, by omega⟩
   rw [show W.outside p = (W.handErr, noPkt, W) from if_pos hu]
   refine fn_intro tabOk Tryz.func78 (by kernel_rfl) rfl Tryz.ntmps78 (lbO rfl) ?_
   have hS := St.start w No
   conv=>whnf
   refine hS.new (fun bp w1 hbp hS => ?_)
   conv=>whnf
   refine hS.new (fun br w2 hbr hS => ?_)
   replace hS : St w No w2 [blk bp 41 (encPkt p), blk br 41 (encPkt noPkt)] := hS
   conv=>whnf
   refine (whand_ok (h.no hS.ext)).mono ?_
   rintro v w3 ⟨rfl, hx⟩
   replace hS := hS.no hx
   rw [hj]
   conv=>whnf
   refine hS.st 1 rfl (lbO rfl) rfl (fun w' hS => ?_)
   conv=>whnf
   refine hS.laX 1 rfl rfl ?_
   repeat' ((conv => whnf); first | refine RetC.mk ?_ | refine nzO ?_ | refine rgO ?_ | refine ixO ?_ | (first|apply brD|apply brND|apply brN|apply brI) <;> (intro))
   exact ⟨rfl, Turns.of_no h.has hS.ext⟩
 obtain ⟨hn, N, hN⟩ := h.ok.hand hu
 have hnk := ((h.ok.side hn).node N hN).1
 have hw : W.outside p = ((N.outside p).1, (N.outside p).2.1, W.setSide W.to ⟨some (N.outside p).2.2, (W.side W.to).byt⟩) := by
   unfold WorldS.outside
   rw [if_neg (fun h => h hu), hN]
 rw [hw]
 obtain ⟨hH, hQ⟩ := h.half hn
 have hT : ∀ {w'}, Turns w w' (halfH X W W.to) (fixH X W (X.side W.to) (X.side (1 - W.to)) ⟨some (N.outside p).2.2, (W.side W.to).byt⟩ (W.side (1 - W.to)) ++ nodeB (X.side W.to).A (N.outside p).2.2 (W.side W.to).byt) → Turns w w' (worldH X W) (worldH X (W.setSide W.to ⟨some (N.outside p).2.2, (W.side W.to).byt⟩)) := fun k => by
   have := Turns.side h.has hn (Y := X.side W.to) rfl k
   rwa [setSide_id hn] at this
 refine fn_intro tabOk Tryz.func78 (by kernel_rfl) rfl Tryz.ntmps78 (lbO rfl) ?_
 have hS := hH.start
 rw [half_up hN] at hS
 conv=>whnf
 refine hS.new (fun bp w1 hbp hS => ?_)
 conv=>whnf
 refine hS.new (fun br w2 hbr hS => ?_)
 have hst : Stands E q m w2 X W := h.of_half hn (by rw [half_up hN]; exact (hS.keep 15).turns)
 conv=>whnf
 refine (whand_ok hst).mono ?_
 rintro v w3 ⟨rfl, hx⟩
 replace hS := hS.no hx
 rw [hu, if_pos rfl]
 rw [half_up hN] at hT hQ
 have hE := h.errs.ext hS.ext hQ
 have hQ' : High (nodeH (X.side W.to).A N) q := hQ.app.2.app.1
 have hs := hS.notin 1 7 7 rfl (List.mem_singleton.2 rfl) (.inl (by decide))
 have hp := hS.notin 15 7 7 rfl (List.mem_singleton.2 rfl) (.inr (by decide))
 have hs2 := hS.ne 1 16 rfl rfl (by decide)
 have hp2 := hS.ne 15 16 rfl rfl (by decide)
 generalize W.setSide W.to ⟨some (N.outside p).2.2, (W.side W.to).byt⟩ = W' at hT ⊢
 clear hst hx
 conv=>whnf
 (refine drawS tabOk mixed [] (fun b => inF (nodeH (X.side W.to).A N) b ∨ b = br) [0, 1, 2, 3, 4, 5, 6, 7, 8, 9] (by kernel_rfl) ?_; rintro w1 rfl; replace hS := hS.drew)
 have hK := hS.ref (fun b => inF (nodeH (X.side W.to).A N) b ∨ b = br)
 conv=>whnf
 refine hS.ldF 1 rfl (v := .pointer (some ⟨(X.side W.to).A.n, 0, none⟩)) rfl (fun h => h.elim hs hs2) ?_
 conv=>whnf
 refine hS.laXF 15 rfl rfl (fun h => h.elim hp hp2) ?_
 conv=>whnf
 have hw3 : Has _ (nodeH (X.side W.to).A N) := Has.left (B := [_, _, _]) (Has.right (A := [_, _, _, _, _, _, _]) hS.has)
 refine (noutside_ok p hw3 hnk hm (hE.ext (Ext.drawn No _ _) fun _ h => h.elim) hQ').mono ?_
 rintro v w' ⟨rfl, hk⟩
 replace hS := St.callAt (A := fixH X W (X.side W.to) (X.side (1 - W.to)) ⟨some N, (W.side W.to).byt⟩ (W.side (1 - W.to))) (B := [_, _, _]) hS hk
 replace hK := hK.trans (hk.ext.mono fun b hb => .inl hb)
 refine KeepC.mk hK ?_
 conv=>whnf
 refine hS.stK hK 16 rfl (lbO rfl) rfl (.inr rfl) (fun w' hK hS => KeepC.mk hK ?_)
 conv=>whnf
 refine hS.laX 16 rfl rfl ?_
 repeat' ((conv => whnf); first | refine RetC.mk ?_ | refine nzO ?_ | refine rgO ?_ | refine ixO ?_ | (first|apply brD|apply brND|apply brN|apply brI) <;> (intro))
 exact ⟨rfl, hT (hS.keep 15).turns⟩
end
end Go.Proofs.YtogjajjdaoihdaaGreatDoor

namespace Go.Proofs.YtogjajjdaoihdaaGreatDoor
set_option maxRecDepth 20000
open Go Ev
section
variable {w w' : World} {X : WorldA} {W : WorldS} {E : Nat → Addr} {q m : Nat}
theorem Stands.fix (h : Stands E q m w X W) : Has w (fixH X W X.a X.b W.a W.b) ∧ High (fixH X W X.a X.b W.a W.b) q := ⟨h.has.left, h.high.app.1⟩
theorem Turns.fixed (h : Has w (worldH X W)) {X' : WorldA} {W' : WorldS} (k : Turns w w' (fixH X W X.a X.b W.a W.b) (fixH X' W' X.a X.b W.a W.b)) (ha : X'.a = X.a) (hb : X'.b = X.b) (ka : W'.a = W.a) (kb : W'.b = W.b) : Turns w w' (worldH X W) (worldH X' W') := by
 unfold worldH
 rw [ha, hb, ka, kb]
 exact Turns.frame h k
theorem at_in {W : WorldS} {k : Int} (h : W.at_ k = 0) : ∃ i : Nat, k = i ∧ i < W.fly.length := by
 unfold WorldS.at_ at h
 split at h
 · exact absurd h (by decide)
 · exact ⟨k.toNat, by omega, by omega⟩
theorem ownB_slice {α : Type} {e : TypeId} {sz : Nat} {enc : α → List Value} {a : Option Addr} {n c n' c' : Nat} {xs ys : List α} {b : Nat} (h : b ∈ (ownL e sz enc (.slice a n c) xs).foot) : b ∈ (ownL e sz enc (.slice a n' c') ys).foot := by
 cases a with
 | none => simp [ownL, own, Value.ownBlock] at h
 | some a => simpa [ownL, own, Value.ownBlock] using h
theorem foot_own {α : Type} {e : TypeId} {sz : Nat} {enc : α → List Value} {v : Value} {xs : List α} {b : Nat} (h : v.ownBlock = some b) : b ∈ (ownL e sz enc v xs).foot := by simp [ownL, own, h]
theorem erase_foot {vs : List NoteV} {ns : List NoteS} {k b : Nat} (h : b ∈ (cellsE (vs.eraseIdx k) (ns.eraseIdx k)).foot) : b ∈ (cellsE vs ns).foot := by
 obtain ⟨x, hx, hb⟩ := cellsE_foot.1 h
 exact cellsE_foot.2 ⟨x, List.mem_of_mem_eraseIdx hx, hb⟩
def WorldA.off (X : WorldA) (i : Nat) : WorldA := { X with vs := X.vs.eraseIdx i }
theorem St.takeOff {w0 w w' : World} {S : Nat → Prop} {Y Z : SideA} {s t : SideS} {B : List Ent} {i : Nat} (hS : St w0 S w (fixH X W Y Z s t ++ B)) (hi : i < X.vs.length) (hx : Ext (fun b => (Value.slice X.fa X.vs.length X.fc).ownBlock = some b) w w') (ho : (ownL 350 5 encNV (.slice X.fa (X.vs.length - 1) X.fc) (X.vs.eraseIdx i)).holds w') :
   St w0 S w' ([blk X.w 162 (encWorld X W), blk Y.s 169 (encSide Y s), blk Z.s 169 (encSide Z t), ownL 98 5 encRule (.slice X.ra W.rules.length X.rc) W.rules, ownL 350 5 encNV (.slice X.fa (W.fly.eraseIdx i).length X.fc) (X.vs.eraseIdx i), cellsE (X.vs.eraseIdx i) (W.fly.eraseIdx i), ownL 157 2 encEv (.slice X.ea W.events.length X.ec) W.events] ++ B) := by
 have hc : (cellsE X.vs W.fly).holds w := hS.get 5 rfl
 have hl : X.vs.length = W.fly.length := hc.1
 have hle : (W.fly.eraseIdx i).length = X.vs.length - 1 := by rw [List.length_eraseIdx, if_pos (by omega), hl]
 rw [hle]
 have h1 := hS.upd 4 rfl hx (fun b hb => foot_own (by rw [hl] at hb; exact hb)) ownL_local ho (fun b hb => .inl (ownB_slice hb))
 have hc1 : (cellsE X.vs W.fly).holds w' := h1.get 5 rfl
 exact h1.upd 5 rfl (T := No) (Ext.refl _ _) (fun _ h => h.elim) cellsE_local (cellsE_erase hc1 i) (fun b hb => .inl (erase_foot hb))
theorem wdrop_ok (k : Int) (h : Stands E q m w X W) : CallC Tryz.prog 142 #[.pointer (some ⟨X.w, 0, none⟩), .int .i64 k] w fun v w' => v = errV E (W.drop k).1 ∧ ∃ X', X'.w = X.w ∧ Turns w w' (worldH X W) (worldH X' (W.drop k).2) := by
 refine fn_intro tabOk Tryz.func142 (by kernel_rfl) rfl Tryz.ntmps142 (lbO rfl) ?_
 conv=>whnf
 refine (wat_ok k h).mono ?_
 rintro v w1 ⟨rfl, hx⟩
 by_cases hu : W.at_ k = 0
 case neg =>
   obtain ⟨j, hj⟩ : ∃ j, W.at_ k = j + 1 := ⟨W.at_ k - 1, by omega⟩
   rw [show W.drop k = (W.at_ k, W) from if_pos hu, hj]
   repeat' ((conv => whnf); first | refine RetC.mk ?_ | refine nzO ?_ | refine rgO ?_ | refine ixO ?_ | (first|apply brD|apply brND|apply brN|apply brI) <;> (intro))
   exact ⟨rfl, X, rfl, Turns.of_no h.has hx⟩
 rw [show W.drop k = (0, W.off k) from if_neg (fun h => h hu), hu]
 obtain ⟨i, rfl, hi⟩ := at_in hu
 have hflen := h.ok.fly
 have hT : ∀ {w'}, Turns w w' (fixH X W X.a X.b W.a W.b) (fixH (X.off i) (W.off i) X.a X.b W.a W.b) → Turns w w' (worldH X W) (worldH (X.off i) (W.off i)) := fun k => Turns.fixed h.has k rfl rfl rfl rfl
 have hS := h.fix.1.start.no hx
 have hc : (cellsE X.vs W.fly).holds w1 := hS.get 5 rfl
 have hl : X.vs.length = W.fly.length := hc.1
 have hrow : (ownL 350 5 encNV (.slice X.fa X.vs.length X.fc) X.vs).holds w1 := by rw [hl]; exact hS.get 4 rfl
 clear hx
 conv=>whnf
 refine hS.ld 0 rfl rfl ?_
 conv=>whnf
 refine rgO ?_
 rw [← hl]
 conv=>whnf
 refine (ndel_ok hrow (by omega) (by omega)).mono ?_
 rintro v w2 ⟨rfl, hx, ho⟩
 replace hS := St.takeOff (B := []) hS (by omega) hx ho
 rw [show X.vs.length - 1 = (W.fly.eraseIdx i).length by rw [List.length_eraseIdx, if_pos hi, hl]]
 conv=>whnf
 refine hS.st 0 rfl (lbO rfl) rfl (fun w' hS => ?_)
 repeat' ((conv => whnf); first | refine RetC.mk ?_ | refine nzO ?_ | refine rgO ?_ | refine ixO ?_ | (first|apply brD|apply brND|apply brN|apply brI) <;> (intro))
 exact ⟨rfl, X.off i, rfl, hT (St.turns hS)⟩
theorem Ev.St.join {w0 w : World} {S : Nat → Prop} {H : List Ent} {e f g : Ent} (h : St w0 S w (e :: f :: H)) (hl : g.Local) (hh : g.holds w) (hf : ∀ b ∈ g.foot, b ∈ e.foot ∨ b ∈ f.foot) : St w0 S w (g :: H) := by
 have hap := List.pairwise_cons.1 h.apart
 have hap2 := List.pairwise_cons.1 hap.2
 have hm : ∀ x ∈ H, x ∈ e :: f :: H := fun x hx => List.mem_cons_of_mem _ (List.mem_cons_of_mem _ hx)
 refine ⟨h.ext, ?_, ?_, ?_, .cons ?_ hap2.2⟩
 · intro x hx
   rcases List.mem_cons.1 hx with rfl | hx
   · exact hh
   · exact h.each x (hm x hx)
 · intro x hx
   rcases List.mem_cons.1 hx with rfl | hx
   · exact hl
   · exact h.loc x (hm x hx)
 · intro x hx b hb
   rcases List.mem_cons.1 hx with rfl | hx
   · rcases hf b hb with h1 | h1
     · exact h.may e List.mem_cons_self b h1
     · exact h.may f (List.mem_cons_of_mem _ List.mem_cons_self) b h1
   · exact h.may x (hm x hx) b hb
 · intro x hx b hb
   rcases hf b hb with h1 | h1
   · exact hap.1 x (List.mem_cons_of_mem _ hx) b h1
   · exact hap2.1 x hx b h1
theorem Ev.St.ldRow {α : Type} {sz : Nat} {enc : α → List Value} {w0 w : World} {S : Nat → Prop} {H : List Ent} (h : St w0 S w H) (C : Codec sz enc) (i : Nat) {e : TypeId} {b o n c k off : Nat} {xs : List α} {x : α} {K : Value → Prop} (hi : H[i]? = some (ownL e sz enc (.slice (some ⟨b, o, none⟩) n c) xs)) (hx : xs[k]? = some x) (ho : off = o + k * sz) (hk : K (.agg (enc x).toArray)) : LdA w b off sz K := by
 subst ho
 have hs := ownL_slc (G := fun _ => True) C (h.get i hi) (fun _ _ => trivial)
 obtain ⟨b0, o0, h1, _, hc⟩ := hs.cells k x hx
 simp only [Option.some.injEq, Addr.mk.injEq] at h1
 obtain ⟨rfl, rfl, _⟩ := h1
 exact ⟨enc x, C.len x, hc, hk⟩
theorem twice_cells {w : World} {vs : List NoteV} {ns : List NoteS} {x : NoteV} {y : NoteS} {k : Nat} (h : (cellsE vs ns).holds w) (hi : NoteIs x y) (hs : Slc w 10 encCell (fun _ => True) x.a x.n y.cells) : (cellsE (vs.take k ++ x :: vs.drop k) (ns.take k ++ y :: ns.drop k)).holds w := by
 have h1 := cellsE_app (cellsE_take h k) (cellsE_app (cellsE_one hi hs) (cellsE_drop h k))
 exact h1
theorem twice_foot {vs : List NoteV} {ns : List NoteS} {x : NoteV} {y : NoteS} {k b : Nat} (h : b ∈ (cellsE (vs.take k ++ x :: vs.drop k) (ns.take k ++ y :: ns.drop k)).foot) : b ∈ (cellsE vs ns).foot ∨ b ∈ footN x := by
 obtain ⟨z, hz, hb⟩ := cellsE_foot.1 h
 rcases List.mem_append.1 hz with hz | hz
 · exact .inl (cellsE_foot.2 ⟨z, List.mem_of_mem_take hz, hb⟩)
 rcases List.mem_cons.1 hz with rfl | hz
 · exact .inr hb
 · exact .inl (cellsE_foot.2 ⟨z, List.mem_of_mem_drop hz, hb⟩)
theorem footN_own {x : NoteV} {b : Nat} (h : b ∈ footN x) : (Value.slice x.a x.n x.c).ownBlock = some b := by
 unfold footN at h
 split at h
 · cases h
 · simpa using h
theorem wtwice_ok (k : Int) (h : Stands E q m w X W) : CallC Tryz.prog 144 #[.pointer (some ⟨X.w, 0, none⟩), .int .i64 k] w fun v w' => v = errV E (W.twice k).1 ∧ ∃ X', X'.w = X.w ∧ Turns w w' (worldH X W) (worldH X' (W.twice k).2) := by
 refine fn_intro tabOk Tryz.func144 (by kernel_rfl) rfl Tryz.ntmps144 (lbO rfl) ?_
 conv=>whnf
 refine (wat_ok k h).mono ?_
 rintro v w1 ⟨rfl, hx⟩
 by_cases hu : W.at_ k = 0
 case neg =>
   obtain ⟨j, hj⟩ : ∃ j, W.at_ k = j + 1 := ⟨W.at_ k - 1, by omega⟩
   rw [show W.twice k = (W.at_ k, W) from if_pos hu, hj]
   repeat' ((conv => whnf); first | refine RetC.mk ?_ | refine nzO ?_ | refine rgO ?_ | refine ixO ?_ | (first|apply brD|apply brND|apply brN|apply brI) <;> (intro))
   exact ⟨rfl, X, rfl, Turns.of_no h.has hx⟩
 rw [hu]
 obtain ⟨i, rfl, hi⟩ := at_in hu
 have hflen := h.ok.fly
 have hqF : ∀ b, inF (fixH X W X.a X.b W.a W.b) b → q ≤ b := h.fix.2
 have hS := h.fix.1.start.no hx
 clear hx
 conv=>whnf
 refine hS.ld 0 rfl rfl ?_
 conv=>whnf
 refine brD (fun h3 => ?_) (fun h3 => ?_)
 · rw [show W.twice i = (6, W) by unfold WorldS.twice; rw [if_neg (fun h => h hu), if_pos (by omega)]]
   repeat' ((conv => whnf); first | refine RetC.mk ?_ | refine nzO ?_ | refine rgO ?_ | refine ixO ?_ | refine hS.ldr (h.errs.at_ 6 rfl) (Errs.out h.errs 6 rfl hqF) ?_ | (first|apply brD|apply brND|apply brN|apply brI) <;> (intro))
   exact ⟨rfl, X, rfl, Turns.frame h.has (St.turns hS)⟩
 have hc : (cellsE X.vs W.fly).holds w1 := hS.get 5 rfl
 have hl : X.vs.length = W.fly.length := hc.1
 obtain ⟨x, hxi⟩ : ∃ x, X.vs[i]? = some x := ⟨_, List.getElem?_eq_getElem (by omega)⟩
 obtain ⟨y, hyi⟩ : ∃ y, W.fly[i]? = some y := ⟨_, List.getElem?_eq_getElem (by omega)⟩
 obtain ⟨hxy, hsl⟩ := cellsE_get hc hxi hyi
 have hyl := (h.ok.notes y (List.mem_of_getElem? hyi)).2
 have hxn : x.n = y.cells.length := hsl.len.symm
 obtain ⟨g, o, hfa⟩ : ∃ g o, X.fa = some ⟨g, o, none⟩ := by
   obtain ⟨b0, o0, h1, _⟩ := (ownL_slc (G := fun _ => True) codNote (hS.get 4 rfl) (fun _ _ => trivial)).cells i x hxi
   exact ⟨b0, o0, h1⟩
 have hw : W.twice i = (0, { W with fly := W.fly.take (i + 1) ++ y :: W.fly.drop (i + 1) }) := by
   unfold WorldS.twice
   rw [if_neg (fun h => h hu), if_neg (by omega)]
   show (match W.fly[(i : Int).toNat]? with | none => _ | some x => _) = _
   rw [Int.toNat_natCast, hyi]
 rw [hw]
 clear hc hsl hw hu
 have hI : ∀ {w2 : World} {b : Nat} {a' : Option Addr} {c' : Nat}, Has w2 [ownL 350 5 encNV (.slice X.fa W.fly.length X.fc) X.vs, blk b 350 (encNV (x.with a' c'))] → CallC Tryz.prog 236 #[.slice (some ⟨g, o, none⟩) W.fly.length X.fc, .int .i64 ((i : Int) + 1), .slice (some ⟨b, 0, none⟩) 1 1] w2 fun v w' =>
     ∃ a2 c2, v = .slice a2 (W.fly.length + 1) c2 ∧ Turns w2 w' [ownL 350 5 encNV (.slice X.fa W.fly.length X.fc) X.vs, blk b 350 (encNV (x.with a' c'))] [ownL 350 5 encNV (.slice a2 (W.fly.length + 1) c2) (X.vs.take (i + 1) ++ x.with a' c' :: X.vs.drop (i + 1)), blk b 350 (encNV (x.with a' c'))] := by
   intro w2 b a' c' hH
   rw [← hl] at hH ⊢
   rw [← hfa]
   exact nins_ok (k := i + 1) hH (by omega) (by omega)
 have hfin : ∀ {w' : World} {a2 a' : Option Addr} {c2 c' : Nat}, St w (inF (fixH X W X.a X.b W.a W.b)) w' [blk X.w 162 (encWorld { X with fa := a2, fc := c2 } { W with fly := W.fly.take (i + 1) ++ y :: W.fly.drop (i + 1) }), blk X.a.s 169 (encSide X.a W.a), blk X.b.s 169 (encSide X.b W.b), ownL 98 5 encRule (.slice X.ra W.rules.length X.rc) W.rules, ownL 350 5 encNV (.slice a2 (W.fly.length + 1) c2) (X.vs.take (i + 1) ++ x.with a' c' :: X.vs.drop (i + 1)), cellsE X.vs W.fly, ownL 157 2 encEv (.slice X.ea W.events.length X.ec) W.events, ownL 209 10 encCell (.slice a' x.n c') y.cells] →
     ∃ X', X'.w = X.w ∧ Turns w w' (worldH X W) (worldH X' { W with fly := W.fly.take (i + 1) ++ y :: W.fly.drop (i + 1) }) := by
   intro w' a2 a' c2 c' hS
   refine ⟨{ X with fa := a2, fc := c2, vs := X.vs.take (i + 1) ++ x.with a' c' :: X.vs.drop (i + 1) }, rfl, ?_⟩
   have hcs : Slc w' 10 encCell (fun _ => True) a' x.n y.cells := ownL_slc codCell (hS.get 7 rfl) (fun _ _ => trivial)
   have hS2 := (hS.sel [5, 7, 0, 1, 2, 3, 4, 6] (by decide)).join (g := cellsE (X.vs.take (i + 1) ++ x.with a' c' :: X.vs.drop (i + 1)) (W.fly.take (i + 1) ++ y :: W.fly.drop (i + 1))) cellsE_local (twice_cells (hS.get 5 rfl) ⟨hxy.fro, hxy.life, hxy.epoch, hxy.claim⟩ hcs) (fun b hb => (twice_foot hb).imp id fun h => foot_own (footN_own h))
   have hll : (W.fly.take (i + 1) ++ y :: W.fly.drop (i + 1)).length = W.fly.length + 1 := by
     simp only [List.length_append, List.length_cons, List.length_take, List.length_drop]
     omega
   rw [← hll] at hS2
   exact Turns.fixed h.has (St.turns (hS2.sel [1, 2, 3, 4, 5, 0, 6] (by decide))) rfl rfl rfl rfl
 have hll : (W.fly.take (i + 1) ++ y :: W.fly.drop (i + 1)).length = W.fly.length + 1 := by
   simp only [List.length_append, List.length_cons, List.length_take, List.length_drop]
   omega
 conv=>whnf
 refine drawT tabOk mixed [4, 10, 13] (fun _ => True) (.take 0 (.take 1 (.take 2 (.take 3 (.take 5 (.take 6 (.take 7 (.take 8 (.take 9 (.take 11 (.alt 4 (.alt 10 (.take 12 (.alt 13 (.alt 14 (.alt 15 (.alt 16 (.take 17 (.take 18 (.alt 19 .fin .fin))) .fin) .fin) .fin) .fin)) .fin) (.alt 10 (.take 12 (.alt 4 (.alt 13 (.alt 14 (.alt 15 (.alt 16 (.take 17 (.take 18 (.alt 19 .fin .fin))) .fin) .fin) .fin) .fin) (.alt 13 (.alt 4 (.alt 14 (.alt 15 (.alt 16 (.take 17 (.take 18 (.alt 19 .fin .fin))) .fin) .fin) .fin) (.alt 14 (.alt 4 (.alt 15 (.alt 16 (.take 17 (.take 18 (.alt 19 .fin .fin))) .fin) .fin) (.alt 15 (.alt 4 (.alt 16 (.take 17 (.take 18 (.alt 19 .fin .fin))) .fin) .fin) .fin)) .fin)) .fin))) .fin)))))))))))) (by kernel_rfl) ?_
 rintro w1 rfl
 replace hS := hS.drew
 have hK := hS.ref (fun _ => True)
 repeat' ((conv => whnf); first | refine RetC.mk ?_ | refine nzO ?_ | refine rgO ?_ | refine ixO ?_ | refine hS.ld 0 rfl (v := .slice (some ⟨g, o, none⟩) W.fly.length X.fc) (by rw [← hfa]; rfl) (KeepC.mk hK ?_) | refine hS.ldRow codNote 4 (by rw [← hfa]; rfl) hxi rfl (KeepC.mk hK ?_) | (refine (wown_ok (cellsE_get (hS.get 5 rfl) hxi hyi).2 (by omega)).mono ?_; rintro v w2 ⟨a', c', rfl, hx, ho, hf⟩; replace hS := hS.made hx ownL_local ho (fun g hg => hf g (by simpa [ownL, own] using hg)); replace hK := hK.trans hx.of_no; clear hx ho hf; refine KeepC.mk hK ?_) | (refine hS.litX Tryz.underlying160 (sz := 5) (by kernel_rfl) (z := .agg (encNV noNV).toArray) (by kernel_rfl) rfl rfl (cs := encNV (x.with a' c')) (by rfl) (fun b9 w3 hb9 hx hS => ?_); replace hK := hK.trans hx.of_no; clear hx; refine KeepC.mk hK ?_) | (have hS2 := hS.sel [4, 8, 0, 1, 2, 3, 5, 6, 7] (by decide); refine (hI (Has.left (A := [_, _]) (B := [_, _, _, _, _, _, _]) hS2.has)).mono ?_; rintro v w4 ⟨a2, c2, rfl, hk⟩; replace hS := (St.call (H := [_, _]) (B := [_, _, _, _, _, _, _]) hS2 hk).sel [2, 3, 4, 5, 0, 6, 7, 8] (by decide); replace hK := hK.trans (hk.ext.mono fun _ _ => trivial); clear hS2 hk; refine KeepC.mk hK ?_) | (refine hS.stK hK 0 rfl (lbO rfl) rfl trivial (fun w' hK hS => KeepC.mk hK ?_)) | (refine ⟨rfl, hfin (a2 := a2) (a' := a') (c2 := c2) (c' := c') ?_⟩; rw [← hll] at hS ⊢; exact hS) | refine And.intro ?_ ?_ | (first|apply brD|apply brND|apply brN|apply brI) <;> (intro))
theorem eclone_ok {G : Int × Int → Prop} {a : Option Addr} {n c : Nat} {xs : List (Int × Int)} (hx : Slc w 2 encEv G a n xs) (hn : n ≤ 2000) :
   CallC Tryz.prog 121 #[.slice a n c] w fun v w' => ∃ a' c', v = .slice a' n c' ∧ Ext No w w' ∧ (ownL 157 2 encEv v xs).holds w' ∧ Fresh w w' v := by
 have hl := hx.len
 refine fn_intro tabOk Tryz.func121 (by kernel_rfl) rfl Tryz.ntmps121 (lbO rfl) ?_
 have hS := St.start w No
 cases a with
 | none =>
   have hn0 : n = 0 := by
     rcases Nat.eq_zero_or_pos n with h | h
     · exact h
     · obtain ⟨_, _, _, _, _, h, _⟩ := hx.at h
       cases h
   subst hn0
   obtain rfl : xs = [] := List.length_eq_zero_iff.1 hl
   repeat' ((conv => whnf); first | refine RetC.mk ?_ | refine nzO ?_ | refine rgO ?_ | refine ixO ?_ | (first|apply brD|apply brND|apply brN|apply brI) <;> (intro))
   have hS := hS.addNil 157 2 encEv
   exact ⟨none, 0, rfl, hS.ext, hS.get 0 rfl, hS.freshAt 0 rfl⟩
 | some a0 =>
   conv=>whnf
   refine hS.lit0 Tryz.underlying73 (sz := 2) (by kernel_rfl) (fun b0 w1 hS => ?_)
   conv=>whnf
   refine hS.appS codEv 0 (xs := []) Tryz.underlying73 (bytes := 16) (by kernel_rfl) (z := .agg (encEv (0, 0)).toArray) (by kernel_rfl) rfl rfl (hx.no hS.ext) (by unfold maxLen; simp; omega) (by simp; omega) (fun a' c' w' hS => ?_)
   repeat' ((conv => whnf); first | refine RetC.mk ?_ | refine nzO ?_ | refine rgO ?_ | refine ixO ?_ | (first|apply brD|apply brND|apply brN|apply brI) <;> (intro))
   have hn0 : ([] : List (Int × Int)).length + n = n := by simp
   rw [hn0] at hS ⊢
   exact ⟨a', c', rfl, hS.ext, hS.get 0 rfl, hS.freshAt 0 rfl⟩
theorem wevents_ok (h : Stands E q m w X W) : CallC Tryz.prog 70 #[.pointer (some ⟨X.w, 0, none⟩)] w fun v w' => ∃ a' c', v = .slice a' W.events.length c' ∧ Ext No w w' ∧ (ownL 157 2 encEv v W.events).holds w' ∧ Fresh w w' v := by
 have he := h.ok.events
 refine fn_intro tabOk Tryz.func70 (by kernel_rfl) rfl Tryz.ntmps70 (lbO rfl) ?_
 have hS := h.fix.1.start
 conv=>whnf
 refine hS.ld 0 rfl rfl ?_
 conv=>whnf
 refine (eclone_ok (ownL_slc (G := fun _ => True) codEv (hS.get 6 rfl) (fun _ _ => trivial)) (by omega)).mono ?_
 rintro v w' ⟨a', c', rfl, hx, ho, hf⟩
 repeat' ((conv => whnf); first | refine RetC.mk ?_ | refine nzO ?_ | refine rgO ?_ | refine ixO ?_ | (first|apply brD|apply brND|apply brN|apply brI) <;> (intro))
 exact ⟨a', c', rfl, hx, ho, hf⟩
end
end Go.Proofs.YtogjajjdaoihdaaGreatDoor

namespace Go.Proofs.YtogjajjdaoihdaaGreatDoor
set_option maxRecDepth 20000
open Go Ev
section
variable {w w' : World} {X : WorldA} {W : WorldS} {E : Nat → Addr} {q m : Nat}
theorem ndel2_ok {i : Nat} {g o : Nat} (hfa : X.fa = some ⟨g, o, none⟩) (hl : X.vs.length = W.fly.length) (hi : i < W.fly.length) (hm : W.fly.length ≤ 200) {w2 : World} (ho : (ownL 350 5 encNV (.slice X.fa W.fly.length X.fc) X.vs).holds w2) :
   CallC Tryz.prog 234 #[.slice (some ⟨g, o, none⟩) W.fly.length X.fc, .int .i64 (i : Int), .int .i64 ((i : Int) + 1)] w2 fun v w' =>
     v = .slice (some ⟨g, o, none⟩) (W.fly.eraseIdx i).length X.fc ∧ Ext (fun b => (Value.slice X.fa W.fly.length X.fc).ownBlock = some b) w2 w' ∧ (ownL 350 5 encNV (.slice X.fa (W.fly.eraseIdx i).length X.fc) (X.vs.eraseIdx i)).holds w' := by
 rw [show (W.fly.eraseIdx i).length = X.vs.length - 1 by rw [List.length_eraseIdx, if_pos hi, hl], ← hfa]
 rw [← hl] at ho ⊢
 exact ndel_ok ho (by omega) (by omega)
def gotH (X : WorldA) (W : WorldS) (i : Nat) (Y Z : SideA) (s t : SideS) : List Ent := [blk X.w 162 (encWorld X (W.off i)), blk Y.s 169 (encSide Y s), blk Z.s 169 (encSide Z t), ownL 98 5 encRule (.slice X.ra W.rules.length X.rc) W.rules, ownL 350 5 encNV (.slice X.fa (W.fly.eraseIdx i).length X.fc) (X.vs.eraseIdx i), cellsE X.vs W.fly, ownL 157 2 encEv (.slice X.ea W.events.length X.ec) W.events]
theorem St.gotOff {w0 w : World} {S : Nat → Prop} {i : Nat} {Y Z : SideA} {s t : SideS} {B : List Ent} (hS : St w0 S w (gotH X W i Y Z s t ++ B)) : St w0 S w (fixH (X.off i) (W.off i) Y Z s t ++ B) := by
 have hc1 : (cellsE X.vs W.fly).holds w := hS.get 5 rfl
 exact hS.upd 5 rfl (T := No) (Ext.refl _ _) (fun _ h => h.elim) cellsE_local (cellsE_erase hc1 i) (fun b hb => .inl (erase_foot hb))
theorem wdeliver_ok (k : Int) (h : Stands E q m w X W) : CallC Tryz.prog 140 #[.pointer (some ⟨X.w, 0, none⟩), .int .i64 k] w fun v w' => v = errV E (W.deliver k).1 ∧ ∃ X', X'.w = X.w ∧ Turns w w' (worldH X W) (worldH X' (W.deliver k).2) := by
 refine fn_intro tabOk Tryz.func140 (by kernel_rfl) rfl Tryz.ntmps140 (lbO rfl) ?_
 conv=>whnf
 refine (wat_ok k h).mono ?_
 rintro v w1 ⟨rfl, hx⟩
 by_cases hu : W.at_ k = 0
 case neg =>
   obtain ⟨j, hj⟩ : ∃ j, W.at_ k = j + 1 := ⟨W.at_ k - 1, by omega⟩
   rw [show W.deliver k = (W.at_ k, W) from if_pos hu, hj]
   repeat' ((conv => whnf); first | refine RetC.mk ?_ | refine nzO ?_ | refine rgO ?_ | refine ixO ?_ | (first|apply brD|apply brND|apply brN|apply brI) <;> (intro))
   exact ⟨rfl, X, rfl, Turns.of_no h.has hx⟩
 rw [hu]
 obtain ⟨i, rfl, hi⟩ := at_in hu
 have hflen := h.ok.fly
 have hc : (cellsE X.vs W.fly).holds w := h.has.get 5 rfl
 have hl : X.vs.length = W.fly.length := hc.1
 obtain ⟨x, hxi⟩ : ∃ x, X.vs[i]? = some x := ⟨_, List.getElem?_eq_getElem (by omega)⟩
 obtain ⟨y, hyi⟩ : ∃ y, W.fly[i]? = some y := ⟨_, List.getElem?_eq_getElem (by omega)⟩
 obtain ⟨hxy, hsl⟩ := cellsE_get hc hxi hyi
 obtain ⟨hyf, hyl⟩ := h.ok.notes y (List.mem_of_getElem? hyi)
 have hxn : x.n = y.cells.length := hsl.len.symm
 obtain ⟨g, o, hfa⟩ : ∃ g o, X.fa = some ⟨g, o, none⟩ := by
   obtain ⟨b0, o0, h1, _⟩ := (ownL_slc (G := fun _ => True) codNote (h.has.get 4 rfl) (fun _ _ => trivial)).cells i x hxi
   exact ⟨b0, o0, h1⟩
 have hw : W.deliver i = (0, (W.off i).got y) := by
   unfold WorldS.deliver
   rw [if_neg (fun h => h hu)]
   show (match W.fly[(i : Int).toNat]? with | none => _ | some x => _) = _
   rw [Int.toNat_natCast, hyi]
 rw [hw]
 clear hc hsl hw hu
 cases hcl : y.claim
 case true =>
   have hxc : x.claim = true := hxy.claim.trans hcl
   have hS := h.fix.1.start.no hx
   clear hx
   conv=>whnf
   refine hS.ld 0 rfl (v := .slice (some ⟨g, o, none⟩) W.fly.length X.fc) (by rw [← hfa]; rfl) ?_
   conv=>whnf
   refine ixO ?_
   conv=>whnf
   refine hS.ldRow codNote 4 (by rw [← hfa]; rfl) hxi rfl ?_
   conv=>whnf
   refine hS.new (fun b6 w2 hb6 hS => ?_)
   conv=>whnf
   refine hS.st 7 rfl (lbO rfl) rfl (fun w3 hS => ?_)
   conv=>whnf
   refine hS.ld 0 rfl (v := .slice (some ⟨g, o, none⟩) W.fly.length X.fc) (by rw [← hfa]; rfl) ?_
   conv=>whnf
   refine rgO ?_
   conv=>whnf
   refine (ndel2_ok hfa hl hi hflen (hS.get 4 rfl)).mono ?_
   rintro v w4 ⟨rfl, hx, ho⟩
   replace hS := hS.upd 4 rfl hx (fun b hb => foot_own hb) ownL_local ho (fun b hb => .inl (ownB_slice hb))
   clear hx ho
   conv=>whnf
   refine hS.st 0 rfl (by exact Nat.le_of_ble_eq_true rfl) rfl (fun w5 hS => ?_)
   conv=>whnf
   rw [← hfa] at hS
   replace hS : St w (inF (fixH X W X.a X.b W.a W.b)) w5 (gotH X W i X.a X.b W.a W.b ++ [blk b6 350 (encNV x)]) := hS
   refine hS.ld 7 rfl (v := .bool true) (by rw [← hxc]; rfl) ?_
   have hxe := hxy.epoch
   have hxf := hxy.fro
   have e1 : (W.off (i : Int)).epoch = W.epoch := rfl
   have e2 : (W.off (i : Int)).to = W.to := rfl
   have hg1 : y.epoch > W.epoch ∨ W.to < 0 → (W.off i).got y = { W.off i with to := x.fro, epoch := x.epoch } := fun h => by
     unfold WorldS.got
     rw [if_pos hcl, hxe, hxf]
     exact if_pos h
   have hg2 : ¬ (y.epoch > W.epoch ∨ W.to < 0) → (W.off i).got y = W.off i := fun h => by
     unfold WorldS.got
     rw [if_pos hcl]
     exact if_neg h
   have hT : ∀ {w' : World} {W' : WorldS}, W'.a = W.a → W'.b = W.b → Turns w w' (fixH X W X.a X.b W.a W.b) (fixH (X.off i) W' X.a X.b W.a W.b) → Turns w w' (worldH X W) (worldH (X.off i) W') := fun ha hb k => Turns.fixed h.has k rfl rfl ha hb
   have hne := hS.ne 7 0 rfl rfl (by decide)
   conv=>whnf
   (refine drawS tabOk mixed [] No [0, 1, 2, 3, 4, 5, 6, 7, 8, 9, 10, 11, 12, 13] (by kernel_rfl) ?_; rintro w1 rfl; replace hS := hS.drew)
   repeat' ((conv => whnf); first | refine RetC.mk ?_ | refine nzO ?_ | refine rgO ?_ | refine ixO ?_ | refine hS.ldF 7 rfl rfl id ?_ | refine hS.ldF 0 rfl rfl id ?_ | (first|apply brD|apply brND|apply brN|apply brI) <;> (intro))
   all_goals first
     | (rw [hg2 (by omega)]; exact ⟨rfl, X.off i, rfl, hT rfl rfl (St.turns (St.gotOff (B := []) (hS.keep 7)))⟩)
     | (rw [hg1 (by omega)]
        (refine drawS tabOk mixed [] (fun b => b = X.w) [0, 1, 2, 3, 4, 5, 6, 7, 8, 9, 10, 11] (by kernel_rfl) ?_; rintro w1 rfl; replace hS := hS.drew)
        have hK := hS.ref (fun b => b = X.w)
        repeat' ((conv => whnf); first | refine RetC.mk ?_ | refine nzO ?_ | refine rgO ?_ | refine ixO ?_ | refine hS.ldF 7 rfl rfl hne ?_ | (refine hS.stK hK 0 rfl (by exact Nat.le_of_ble_eq_true rfl) rfl rfl (fun w' hK hS => KeepC.mk hK ?_)) | (first|apply brD|apply brND|apply brN|apply brI) <;> (intro))
        exact ⟨rfl, X.off i, rfl, hT rfl rfl (St.turns (St.gotOff (W := { W with to := x.fro, epoch := x.epoch }) (B := []) (hS.keep 7)))⟩)
 case false =>
   have hxc : x.claim = false := hxy.claim.trans hcl
   have hn : 1 - y.fro = 0 ∨ 1 - y.fro = 1 := by omega
   have hxf := hxy.fro
   cases hN : (W.side (1 - y.fro)).node with
   | none =>
     have hS := h.fix.1.start.no hx
     clear hx
     conv=>whnf
     refine hS.ld 0 rfl (v := .slice (some ⟨g, o, none⟩) W.fly.length X.fc) (by rw [← hfa]; rfl) ?_
     conv=>whnf
     refine ixO ?_
     conv=>whnf
     refine hS.ldRow codNote 4 (by rw [← hfa]; rfl) hxi rfl ?_
     conv=>whnf
     refine hS.new (fun b6 w2 hb6 hS => ?_)
     conv=>whnf
     refine hS.st 7 rfl (lbO rfl) rfl (fun w3 hS => ?_)
     conv=>whnf
     refine hS.ld 0 rfl (v := .slice (some ⟨g, o, none⟩) W.fly.length X.fc) (by rw [← hfa]; rfl) ?_
     conv=>whnf
     refine rgO ?_
     conv=>whnf
     refine (ndel2_ok hfa hl hi hflen (hS.get 4 rfl)).mono ?_
     rintro v w4 ⟨rfl, hx, ho⟩
     replace hS := hS.upd 4 rfl hx (fun b hb => foot_own hb) ownL_local ho (fun b hb => .inl (ownB_slice hb))
     clear hx ho
     conv=>whnf
     refine hS.st 0 rfl (by exact Nat.le_of_ble_eq_true rfl) rfl (fun w5 hS => ?_)
     conv=>whnf
     rw [← hfa] at hS
     replace hS : St w (inF (fixH X W X.a X.b W.a W.b)) w5 (gotH X W i X.a X.b W.a W.b ++ [blk b6 350 (encNV x)]) := hS
     refine hS.ld 7 rfl (v := .bool false) (by rw [← hxc]; rfl) ?_
     have hg : (W.off i).got y = W.off i := by
       unfold WorldS.got
       rw [if_neg (by rw [hcl]; decide), if_neg (by omega)]
       show (match (W.side (1 - y.fro)).node with | none => _ | some N => _) = _
       rw [hN]
     have hk : Turns w w5 (worldH X W) (worldH (X.off i) (W.off i)) := Turns.fixed h.has (St.turns (St.gotOff (B := []) (hS.keep 7))) rfl rfl rfl rfl
     have hst : Stands E q m w5 (X.off i) (W.off i) := h.turns hk (h.ok.off i)
     rw [hg]
     conv=>whnf
     refine hS.ld 7 rfl rfl ?_
     conv=>whnf
     refine rgO ?_
     conv=>whnf
     rw [hxf]
     refine (wup_ok (1 - y.fro) hst).mono ?_
     rintro v w6 ⟨rfl, hx⟩
     rw [upErr_none (W := W.off i) hn hN]
     repeat' ((conv => whnf); first | refine RetC.mk ?_ | refine nzO ?_ | refine rgO ?_ | refine ixO ?_ | (first|apply brD|apply brND|apply brN|apply brI) <;> (intro))
     exact ⟨rfl, X.off i, rfl, hk.trans (Turns.of_no hst.has hx)⟩
   | some N =>
     obtain ⟨hH, hQ⟩ := h.half hn
     have hnk := ((h.ok.side hn).node N hN).1
     have hT : ∀ {w'}, Turns w w' (halfH X W (1 - y.fro)) (fixH (X.off i) (W.off i) (X.side (1 - y.fro)) (X.side (1 - (1 - y.fro))) ⟨some (N.hear y).2, (W.side (1 - y.fro)).byt⟩ (W.side (1 - (1 - y.fro))) ++ nodeB (X.side (1 - y.fro)).A (N.hear y).2 (W.side (1 - y.fro)).byt) → Turns w w' (worldH X W) (worldH (X.off i) ((W.off i).got y)) := fun k => by
       have hg : (W.off i).got y = (W.off i).setSide (1 - y.fro) ⟨some (N.hear y).2, (W.side (1 - y.fro)).byt⟩ := by
         unfold WorldS.got
         rw [if_neg (by rw [hcl]; decide), if_neg (by omega)]
         show (match (W.side (1 - y.fro)).node with | none => _ | some N => _) = _
         rw [hN]
         rfl
       rw [hg]
       refine Turns.world h.has hn (X' := X.off i) ?_ rfl (side_set (X := X.off i) (W := W.off i) hn ((X.off i).side (1 - y.fro)) _).2.2.2
       have := half_set (X := X.off i) (W := W.off i) hn (Y := (X.off i).side (1 - y.fro)) rfl ⟨some (N.hear y).2, (W.side (1 - y.fro)).byt⟩
       rw [setSide_id hn] at this
       rw [this]
       exact k
     have hS := hH.start.no hx
     clear hx
     rw [half_up hN] at hS
     conv=>whnf
     refine hS.ld 0 rfl (v := .slice (some ⟨g, o, none⟩) W.fly.length X.fc) (by rw [← hfa]; rfl) ?_
     conv=>whnf
     refine ixO ?_
     conv=>whnf
     refine hS.ldRow codNote 4 (by rw [← hfa]; rfl) hxi rfl ?_
     conv=>whnf
     refine hS.new (fun b6 w2 hb6 hS => ?_)
     conv=>whnf
     refine hS.st 15 rfl (lbO rfl) rfl (fun w3 hS => ?_)
     conv=>whnf
     refine hS.ld 0 rfl (v := .slice (some ⟨g, o, none⟩) W.fly.length X.fc) (by rw [← hfa]; rfl) ?_
     conv=>whnf
     refine rgO ?_
     conv=>whnf
     refine (ndel2_ok hfa hl hi hflen (hS.get 4 rfl)).mono ?_
     rintro v w4 ⟨rfl, hx, ho⟩
     replace hS := hS.upd 4 rfl hx (fun b hb => foot_own hb) ownL_local ho (fun b hb => .inl (ownB_slice hb))
     clear hx ho
     conv=>whnf
     refine hS.st 0 rfl (by exact Nat.le_of_ble_eq_true rfl) rfl (fun w5 hS => ?_)
     conv=>whnf
     rw [← hfa] at hS
     replace hS : St w (inF (fixH X W (X.side (1 - y.fro)) (X.side (1 - (1 - y.fro))) ⟨some N, (W.side (1 - y.fro)).byt⟩ (W.side (1 - (1 - y.fro))) ++ nodeB (X.side (1 - y.fro)).A N (W.side (1 - y.fro)).byt)) w5 (gotH X W i (X.side (1 - y.fro)) (X.side (1 - (1 - y.fro))) ⟨some N, (W.side (1 - y.fro)).byt⟩ (W.side (1 - (1 - y.fro))) ++ (nodeB (X.side (1 - y.fro)).A N (W.side (1 - y.fro)).byt ++ [blk b6 350 (encNV x)])) := hS
     refine hS.ld 15 rfl (v := .bool false) (by rw [← hxc]; rfl) ?_
     have hst : Stands E q m w5 (X.off i) (W.off i) := by
       refine h.turns (m' := m) ?_ (h.ok.off i)
       refine Turns.world h.has hn (X' := X.off i) ?_ rfl rfl
       have := St.turns (St.gotOff (B := nodeB (X.side (1 - y.fro)).A N (W.side (1 - y.fro)).byt) (hS.keep 15))
       rw [← half_up hN] at this
       have h2 := half_up (X := X.off i) (W := W.off i) (n := 1 - y.fro) hN
       rw [h2]
       exact this
     conv=>whnf
     refine hS.ld 15 rfl rfl ?_
     conv=>whnf
     refine rgO ?_
     conv=>whnf
     rw [hxf]
     refine (wup_ok (1 - y.fro) hst).mono ?_
     rintro v w6 ⟨rfl, hx⟩
     replace hS := hS.no hx
     rw [upErr_some (W := W.off i) hn hN, if_pos rfl]
     clear hx hst
     rw [half_up hN] at hT hQ
     have hE := h.errs.ext hS.ext hQ
     have hQ' : High (nodeH (X.side (1 - y.fro)).A N) q := hQ.app.2.app.1
     have hs := hS.notin 1 7 7 rfl (List.mem_singleton.2 rfl) (.inl (by decide))
     have hp := hS.notin 15 7 7 rfl (List.mem_singleton.2 rfl) (.inr (by decide))
     have hsrc : 0 < x.n → ∀ b0 o0, x.a = some ⟨b0, o0, none⟩ → ¬ inF (nodeH (X.side (1 - y.fro)).A N) b0 := fun h0 b0 o0 ha => hS.notin 5 7 7 (e := cellsE X.vs W.fly) rfl (cellsE_foot.2 ⟨x, List.mem_of_getElem? hxi, footN_at h0 ha⟩) (.inl (by decide))
     conv=>whnf
     (refine drawS tabOk mixed [] (inF (nodeH (X.side (1 - y.fro)).A N)) [0, 1, 2, 3, 4, 5] (by kernel_rfl) ?_; rintro w1 rfl; replace hS := hS.drew)
     conv=>whnf
     refine hS.ldF 1 rfl (v := .pointer (some ⟨(X.side (1 - y.fro)).A.n, 0, none⟩)) rfl hs ?_
     conv=>whnf
     refine hS.laXF 15 rfl rfl hp ?_
     conv=>whnf
     have hw3 : Has _ (nodeH (X.side (1 - y.fro)).A N) := Has.left (B := [_, _]) (Has.right (A := [_, _, _, _, _, _, _]) hS.has)
     have hyx : (⟨x.fro, x.life, x.epoch, x.claim, y.cells⟩ : NoteS) = y := by
       obtain ⟨f, l, e, c, cs⟩ := y
       simp only [NoteS.mk.injEq, and_true]
       exact ⟨hxy.fro, hxy.life, hxy.epoch, hxy.claim⟩
     refine (nhear_ok x y.cells (cellsE_get (hS.get 5 rfl) hxi hyi).2 hsrc hw3 hnk ((hE.ext (Ext.drawn No _ _) fun _ h => h.elim).sub rfl) hQ').mono ?_
     rintro v w' ⟨rfl, hk⟩
     refine KeepC.mk hk.ext ?_
     rw [hyx] at hk
     replace hS := St.callAt (A := gotH X W i (X.side (1 - y.fro)) (X.side (1 - (1 - y.fro))) ⟨some N, (W.side (1 - y.fro)).byt⟩ (W.side (1 - (1 - y.fro)))) (B := [_, _]) hS hk
     repeat' ((conv => whnf); first | refine RetC.mk ?_ | refine nzO ?_ | refine rgO ?_ | refine ixO ?_ | (first|apply brD|apply brND|apply brN|apply brI) <;> (intro))
     exact ⟨rfl, X.off i, rfl, hT (St.turns (St.gotOff (B := nodeB (X.side (1 - y.fro)).A (N.hear y).2 (W.side (1 - y.fro)).byt) (hS.keep 15)))⟩
end
end Go.Proofs.YtogjajjdaoihdaaGreatDoor

namespace Go.Proofs.YtogjajjdaoihdaaGreatDoor
set_option maxRecDepth 20000
open Go Ev
section
variable {w w' : World} {X : WorldA} {W : WorldS} {E : Nat → Addr} {q m : Nat}
theorem fix_new {Y Z : SideA} {A : NodeA} {N : NodeS} {B : BytS} {t : SideS} (hb : A.b = Y.A.b) : fixH X W ⟨Y.s, A⟩ Z ⟨some N, B⟩ t = [blk X.w 162 (encWorld X W), blk Y.s 169 [.pointer (some ⟨A.n, 0, none⟩), .pointer (some ⟨Y.A.b, 0, none⟩)], blk Z.s 169 (encSide Z t), ownL 98 5 encRule (.slice X.ra W.rules.length X.rc) W.rules, ownL 350 5 encNV (.slice X.fa W.fly.length X.fc) X.vs, cellsE X.vs W.fly, ownL 157 2 encEv (.slice X.ea W.events.length X.ec) W.events] := by
 rw [← hb]
 rfl
theorem wcome_ok (n : Int) (h : Stands E q m w X W) : CallC Tryz.prog 148 #[.pointer (some ⟨X.w, 0, none⟩), .int .i64 n] w fun v w' => v = errV E (W.up n).1 ∧ ∃ X', X'.w = X.w ∧ Turns w w' (worldH X W) (worldH X' (W.up n).2) := by
 have hqw : ∀ b, inF (worldH X W) b → q ≤ b := h.high
 by_cases hn : n = 0 ∨ n = 1
 case neg =>
   rw [show W.up n = (2, W) from if_pos (by omega)]
   refine fn_intro tabOk Tryz.func148 (by kernel_rfl) rfl Tryz.ntmps148 (lbO rfl) ?_
   have hS := h.has.start
   conv=>whnf
   refine brND (fun h1 => ?_) (fun h1 => absurd (.inl h1) hn)
   conv=>whnf
   refine brND (fun h1 => ?_) (fun h1 => absurd (.inr h1) hn)
   repeat' ((conv => whnf); first | refine RetC.mk ?_ | refine nzO ?_ | refine rgO ?_ | refine ixO ?_ | refine hS.ldr (h.errs.at_ 2 rfl) (Errs.out h.errs 2 rfl hqw) ?_ | (first|apply brD|apply brND|apply brN|apply brI) <;> (intro))
   exact ⟨rfl, X, rfl, Turns.refl h.has⟩
 obtain ⟨hH, hQ⟩ := h.half hn
 have hqF : ∀ b, inF (halfH X W n) b → q ≤ b := hQ
 cases hN : (W.side n).node with
 | some N =>
   rw [show W.up n = (11, W) by unfold WorldS.up; rw [if_neg (by omega), hN]]
   rcases hn with rfl | rfl
   all_goals
     refine fn_intro tabOk Tryz.func148 (by kernel_rfl) rfl Tryz.ntmps148 (lbO rfl) ?_
     have hS := hH.start
     conv=>whnf
     refine IdxC.mk (by decide) (by decide) ?_
     conv=>whnf
     refine hS.ld 0 rfl rfl ?_
     conv=>whnf
     refine hS.ld 1 rfl (v := .pointer (some ⟨(X.side _).A.n, 0, none⟩)) (by rw [encSide_some hN]; rfl) ?_
     repeat' ((conv => whnf); first | refine RetC.mk ?_ | refine nzO ?_ | refine rgO ?_ | refine ixO ?_ | refine hS.ldr (h.errs.at_ 11 rfl) (Errs.out h.errs 11 rfl hqF) ?_ | (first|apply brD|apply brND|apply brN|apply brI) <;> (intro))
     exact ⟨rfl, X, rfl, Turns.refl h.has⟩
 | none =>
   have hw : W.up n = if (newN n (onB (W.side n).byt) W.rules).1 ≠ 0 then ((newN n (onB (W.side n).byt) W.rules).1, W.setSide n ⟨none, (newN n (onB (W.side n).byt) W.rules).2.2⟩)
       else (0, W.setSide n ⟨some (newN n (onB (W.side n).byt) W.rules).2.1, (newN n (onB (W.side n).byt) W.rules).2.2⟩) := by
     unfold WorldS.up
     rw [if_neg (by omega), hN]
   rw [hw]
   have hBk := (h.ok.side hn).bok
   have hBo := onB_ok hBk
   have hgr := h.ok.rules
   have hT : ∀ {w'} {Y : SideA} {s : SideS}, Y.s = (X.side n).s → Turns w w' (halfH X W n) (fixH X W Y (X.side (1 - n)) s (W.side (1 - n)) ++ sideH Y s) → ∃ X', X'.w = X.w ∧ Turns w w' (worldH X W) (worldH X' (W.setSide n s)) := fun {w'} {Y} {s} hY k => ⟨X.setSide n Y, by rcases hn with rfl | rfl <;> rfl, Turns.side h.has hn hY k⟩
   have hbq : q ≤ (X.side n).A.b := by
     have h1 := hQ
     rw [half_down hN] at h1
     exact h1 _ ⟨_, List.mem_of_getElem? (i := 7) rfl, List.mem_singleton.2 rfl⟩
   have hD := half_down (X := X) hN
   have hns : ∀ {w' : World} {L : List Ent}, St w (inF (halfH X W n)) w' L → L[3]? = some (ownL 98 5 encRule (.slice X.ra W.rules.length X.rc) W.rules) → L[7]? = some (blk (X.side n).A.b 253 (encBy (onB (W.side n).byt))) → Slc w' 5 encRule (fun _ => True) X.ra W.rules.length W.rules ∧ (0 < W.rules.length → ∀ b0 o0, X.ra = some ⟨b0, o0, none⟩ → b0 ≠ (X.side n).A.b) := by
     intro w' L hS h3 h7
     refine ⟨ownL_slc codRule (hS.get 3 h3) (fun _ _ => trivial), fun _ b0 o0 ha he => ?_⟩
     exact hS.apartAt 3 7 h3 h7 (by decide) b0 (foot_own (by rw [ha]; rfl)) (by rw [he]; exact List.mem_singleton.2 rfl)
   generalize hR : newN n (onB (W.side n).byt) W.rules = R
   obtain ⟨T, hTT⟩ : ∃ T : Nat → Prop, ∀ d, T d ↔ d = (X.side n).A.b := ⟨fun d => d = (X.side n).A.b, fun _ => Iff.rfl⟩
   obtain ⟨L, hL⟩ : ∃ L : NodeA → SideA, ∀ A, (L A).s = (X.side n).s ∧ (L A).A = A := ⟨fun A => ⟨(X.side n).s, A⟩, fun _ => ⟨rfl, rfl⟩⟩
   rcases hn with rfl | rfl
   all_goals
     refine fn_intro tabOk Tryz.func148 (by kernel_rfl) rfl Tryz.ntmps148 (lbO rfl) ?_
     have hS := hH.start
     rw [hD] at hS hT
     rw [hD] at hns hqF
     conv=>whnf
     refine IdxC.mk (by decide) (by decide) ?_
     conv=>whnf
     refine hS.ld 0 rfl rfl ?_
     conv=>whnf
     refine hS.ld 1 rfl rfl ?_
     conv=>whnf
     refine hS.ld 1 rfl rfl ?_
     conv=>whnf
     refine (bon_ok (hS.blk 7 rfl) hBk.len).mono ?_
     rintro v w' ⟨hx, hB⟩
     replace hS := hS.upd 7 rfl hx (fun c hc => by subst hc; exact List.mem_singleton.2 rfl) (blk_local _ _ _) hB (fun c hc => .inl hc)
     clear hx hB
     obtain ⟨hsl, hsrc⟩ := hns hS rfl rfl
     have hn1 := hS.ne 1 7 rfl rfl (by decide)
     have hn0 := hS.ne 0 7 rfl rfl (by decide)
     have hE := h.errs.ext hS.ext hqF
     conv=>whnf
     (refine drawS tabOk mixed [] (T) [0, 1, 2, 3, 4, 5, 6, 7, 8, 9, 10, 11, 12, 13, 14] (by kernel_rfl) ?_; rintro w1 rfl; replace hS := hS.drew)
     have hK := hS.ref T
     conv=>whnf
     refine hS.ldF 1 rfl rfl (fun ht => hn1 ((hTT _).1 ht)) ?_
     conv=>whnf
     refine hS.ldF 0 rfl rfl (fun ht => hn0 ((hTT _).1 ht)) ?_
     conv=>whnf
     refine (nnew_ok _ (by decide) (hsl.no (Ext.drawn _ _ _)) (by have := hgr.1; omega) (fault_good.2 hgr) hsrc (hS.blk 7 rfl) hBo rfl ((hE.ext (Ext.drawn No _ _) fun _ h => h.elim).sub rfl) hbq).mono ?_
     rintro v w6 hnew
     have hR' : newN _ ⟨(W.side _).byt.data, false, -1⟩ W.rules = R := hR
     rw [hR'] at hnew
     rcases hnew with ⟨h0, A, hAb, rfl, hk⟩ | ⟨h0, rfl, hk, hB⟩
     · rw [if_neg (fun h => h h0)]
       replace hK := hK.trans (hk.ext.mono fun d hd => (hTT d).2 (by obtain ⟨e, he, hd⟩ := hd; obtain rfl := List.mem_singleton.1 he; exact List.mem_singleton.1 hd))
       refine KeepC.mk hK ?_
       have hS2 := St.callAt (A := [_, _, _, _, _, _, _]) (B := []) hS hk
       conv=>whnf
       refine hS2.st 1 rfl (by exact Nat.le_of_ble_eq_true rfl) rfl (fun w' hS3 => ?_)
       repeat' ((conv => whnf); first | refine RetC.mk ?_ | refine nzO ?_ | refine rgO ?_ | refine ixO ?_ | (first|apply brD|apply brND|apply brN|apply brI) <;> (intro))
       refine ⟨rfl, hT (Y := ⟨(X.side _).s, A⟩) (s := ⟨some R.2.1, R.2.2⟩) rfl ?_⟩
       rw [fix_new hAb]
       exact St.turns hS3
     · rw [if_pos h0]
       obtain ⟨j, hj⟩ : ∃ j, R.1 = j + 1 := ⟨R.1 - 1, by omega⟩
       replace hK := hK.trans (hk.mono fun d hd => (hTT d).2 hd)
       refine KeepC.mk hK ?_
       have hS2 := hS.upd 7 rfl hk (fun c hc => by subst hc; exact List.mem_singleton.2 rfl) (blk_local _ _ _) hB (fun c hc => .inl hc)
       rw [hj]
       repeat' ((conv => whnf); first | refine RetC.mk ?_ | refine nzO ?_ | refine rgO ?_ | refine ixO ?_ | (first|apply brD|apply brND|apply brN|apply brI) <;> (intro))
       exact ⟨rfl, hT (Y := X.side _) (s := ⟨none, R.2.2⟩) rfl (St.turns hS2)⟩
end
end Go.Proofs.YtogjajjdaoihdaaGreatDoor

namespace Go.Proofs.YtogjajjdaoihdaaGreatDoor
set_option maxRecDepth 20000
open Go Ev
theorem notes_cells (N : NodeS) (c : Bool) : ∀ n ∈ (N.notes c).1, (n.claim = true ∧ n.cells = []) ∨ (n.claim = false ∧ n.cells = cellsOfN (N.notes c).1) := by
 cases hb : N.beat
 · cases c
   · rw [notes_ff hb]
     intro n hn
     cases hn
   · rw [notes_tf hb]
     intro n hn
     obtain rfl := List.mem_singleton.1 hn
     exact .inl ⟨rfl, rfl⟩
 · rw [notes_t hb]
   intro n hn
   rcases List.mem_cons.1 hn with rfl | hn
   · exact .inl ⟨rfl, rfl⟩
   · obtain rfl := List.mem_singleton.1 hn
     exact .inr ⟨rfl, by simp [cellsOfN]⟩
theorem tick_cells (N : NodeS) (B : BytS) : ∀ n ∈ (N.tick B).2.1, (n.claim = true ∧ n.cells = []) ∨ (n.claim = false ∧ n.cells = cellsOfN (N.tick B).2.1) := by
 unfold NodeS.tick
 split
 · intro n hn
   cases hn
 split
 · split
   · intro n hn
     cases hn
   · exact notes_cells _ _
 · exact notes_cells _ _
theorem notes_short (N : NodeS) (c : Bool) : (N.notes c).1.length ≤ 2 := by
 cases hb : N.beat
 · cases c
   · rw [notes_ff hb]
     exact Nat.zero_le _
   · rw [notes_tf hb]
     exact Nat.le_succ _
 · rw [notes_t hb]
   exact Nat.le_refl _
theorem tick_short (N : NodeS) (B : BytS) : (N.tick B).2.1.length ≤ 2 := by
 unfold NodeS.tick
 split
 · exact Nat.zero_le _
 split
 · split
   · exact Nat.zero_le _
   · exact notes_short _ _
 · exact notes_short _ _
end Go.Proofs.YtogjajjdaoihdaaGreatDoor

namespace Go.Proofs.YtogjajjdaoihdaaGreatDoor.Ev
set_option maxRecDepth 20000
open Go
def loopsL : Code → List Code
 | .loop c => c :: loopsL c
 | .seq a b => loopsL a ++ loopsL b
 | .cond _ a b => loopsL a ++ loopsL b
 | .block _ c => loopsL c
 | .scope c => loopsL c
 | _ => []
def loopAt (f : Func) (i : Nat) : Code := match f.body with
 | some c => (loopsL c).getD i .skip
 | none => .skip
theorem St.as {w0 w : World} {S : Nat → Prop} {H H' : List Ent} (h : St w0 S w H) (e : H = H') : St w0 S w H' := e ▸ h
end Go.Proofs.YtogjajjdaoihdaaGreatDoor.Ev

namespace Go.Proofs.YtogjajjdaoihdaaGreatDoor
set_option maxRecDepth 20000
open Go Ev
section
variable {w : World}
theorem slc_nil {α : Type} (w : World) (sz : Nat) (enc : α → List Value) (G : α → Prop) (a : Option Addr) : Slc w sz enc G a 0 [] := ⟨rfl, by decide, fun k x hk => by simp at hk, fun x hx => by simp at hx⟩
end
end Go.Proofs.YtogjajjdaoihdaaGreatDoor

namespace Go.Proofs.YtogjajjdaoihdaaGreatDoor
set_option maxRecDepth 20000
open Go Ev
section
variable {w w' : World} {X : WorldA} {W : WorldS} {E : Nat → Addr} {q m : Nat}
def WorldS.with (W : WorldS) (f : List NoteS) (e : List (Int × Int)) : WorldS := { W with fly := f, events := e }
def WorldA.with (X : WorldA) (fa : Option Addr) (fc : Nat) (vs : List NoteV) (ea : Option Addr) (ec : Nat) : WorldA := { X with fa := fa, fc := fc, vs := vs, ea := ea, ec := ec }
theorem half_with {n : Int} (hn : n = 0 ∨ n = 1) (s : SideS) (f : List NoteS) (e : List (Int × Int)) (fa : Option Addr) (fc : Nat) (vs : List NoteV) (ea : Option Addr) (ec : Nat) :
   halfH (X.with fa fc vs ea ec) ((W.setSide n s).with f e) n = fixH (X.with fa fc vs ea ec) (W.with f e) (X.side n) (X.side (1 - n)) s (W.side (1 - n)) ++ sideH (X.side n) s := by
 rcases hn with rfl | rfl <;> rfl
theorem with_side {n : Int} (hn : n = 0 ∨ n = 1) (s : SideS) (f : List NoteS) (e : List (Int × Int)) : ((W.setSide n s).with f e).side (1 - n) = W.side (1 - n) := by
 rcases hn with rfl | rfl <;> rfl
theorem noteV_is {l : List NoteS} {x : Option Addr} {y : Nat} (hl : ∀ n ∈ l, (n.claim = true ∧ n.cells = []) ∨ (n.claim = false ∧ n.cells = cellsOfN l)) (h1 : Slc w 10 encCell (fun _ => True) x (cellsOfN l).length (cellsOfN l)) {n : NoteS} (hn : n ∈ l) : NoteIs (noteV x y n) n ∧ Slc w 10 encCell (fun _ => True) (noteV x y n).a (noteV x y n).n n.cells := by
 refine ⟨⟨rfl, rfl, rfl, rfl⟩, ?_⟩
 rcases hl n hn with ⟨h3, h4⟩ | ⟨h3, h4⟩
 · simp only [noteV, h4]
   exact slc_nil _ _ _ _ _
 · simp only [noteV, h3, h4]
   exact h1
def evT (X : WorldA) (W : WorldS) : Nat → Prop := fun d => d = X.w ∨ d ∈ (ownL 157 2 encEv (.slice X.ea W.events.length X.ec) W.events).foot
def flyK (F : List NoteS) (l : List NoteS) (k : Nat) : List NoteS := F ++ (l.take k).take (200 - F.length)
theorem flyK_more {F l : List NoteS} {k : Nat} {x : NoteS} (hx : l[k]? = some x) (h : (flyK F l k).length < 200) : flyK F l (k + 1) = flyK F l k ++ [x] := by
 have hk := (List.getElem?_eq_some_iff.1 hx).1
 unfold flyK at h ⊢
 rw [List.length_append, List.length_take, List.length_take] at h
 rw [List.take_take, List.take_take, Nat.min_eq_right (by omega), Nat.min_eq_right (by omega), List.take_add_one, hx, List.append_assoc]
 rfl
theorem flyK_full {F l : List NoteS} {k : Nat} (hF : F.length ≤ 200) (h : ¬ (flyK F l k).length < 200) : flyK F l (k + 1) = flyK F l k := by
 unfold flyK at h ⊢
 rw [List.length_append, List.length_take, List.length_take] at h
 rw [List.take_take, List.take_take, Nat.min_eq_left (by omega), Nat.min_eq_left (by omega)]
theorem flyK_le {F l : List NoteS} {k : Nat} (hF : F.length ≤ 200) : (flyK F l k).length ≤ 200 := by
 unfold flyK
 rw [List.length_append, List.length_take]
 omega
abbrev tickH (X : WorldA) (W : WorldS) (Y Z : SideA) (N : NodeS) (B : BytS) (t : SideS) (a : Option Addr) (c : Nat) (x : Option Addr) (y : Nat) (l : List NoteS) : List Ent :=
 fixH X W Y Z ⟨some N, B⟩ t ++ (nodeB Y.A N B ++ noteH a c x y l)
theorem flyK_zero (F l : List NoteS) : flyK F l 0 = F := by simp [flyK]
theorem flyK_end {F l : List NoteS} {k : Nat} (h : k = l.length) : flyK F l k = F ++ l.take (200 - F.length) := by
 subst h
 unfold flyK
 rw [List.take_length]
set_option maxHeartbeats 4000000 in
set_option maxRecDepth 10000 in
theorem tickLoop {S : Nat → Prop} {w5 : World} {Y Z : SideA} {N' : NodeS} {B' : BytS} {t : SideS} {a x ea : Option Addr} {c y ec ll : Nat} {l : List NoteS} {ev : List (Int × Int)} {σ : Slots} {Q : Exit → Slots → World → Prop}
   (hs : Sub [(90, .int .i64 ((0 : Nat) : Int)), (89, .int .i64 (ll : Nat)), (88, .slice a ll c), (0, .pointer (some ⟨X.w, 0, none⟩))] σ)
   (hS : St w S w5 (tickH (X.with X.fa X.fc X.vs ea ec) (W.with W.fly ev) Y Z N' B' t a c x y l)) (hflen : W.fly.length ≤ 200) (hshort : l.length ≤ 2) (hll : (l.map (noteV x y)).length = ll) (hnl : ll = l.length)
   (hcell : ∀ n ∈ l, (n.claim = true ∧ n.cells = []) ∨ (n.claim = false ∧ n.cells = cellsOfN l)) (hfew : ∀ x ∈ l, x.cells.length ≤ 8)
   (hQ : ∀ σ w6, (∃ fa fc vs, St w S w6 (tickH (X.with fa fc vs ea ec) (W.with (flyK W.fly l ll) ev) Y Z N' B' t a c x y l)) → Q (.exit 0) σ w6) :
   LoopC Tryz.prog tab 112 (loopAt Tryz.f216 0) Q σ w5 := by
 refine loopR tabOk (fun σ w' q => ∃ (k : Nat) (fa : Option Addr) (fc : Nat) (vs : List NoteV), σ = [(90, .int .i64 k), (89, .int .i64 (ll : Nat)), (88, .slice a ll c), (0, .pointer (some ⟨X.w, 0, none⟩))] ∧ q = ll - k ∧ k ≤ ll ∧ St w S w' (tickH (X.with fa fc vs ea ec) (W.with (flyK W.fly l k) ev) Y Z N' B' t a c x y l))
   (σ' := [(90, .int .i64 ((0 : Nat) : Int)), (89, .int .i64 (ll : Nat)), (88, .slice a ll c), (0, .pointer (some ⟨X.w, 0, none⟩))]) (n := ll) hs ⟨0, X.fa, X.fc, X.vs, rfl, rfl, Nat.zero_le _, by rw [flyK_zero]; exact hS⟩ ?_
 clear hS
 rintro _ w5 q' ⟨k, fa, fc, vs, rfl, rfl, hk, hS⟩
 conv=>whnf
 refine brD (fun h3 => ?_) (fun h3 => ?_)
 · have hk3 : k < l.length := by omega
   obtain ⟨z, hz⟩ : ∃ z, l[k]? = some z := ⟨_, List.getElem?_eq_getElem hk3⟩
   have hzm := List.mem_of_getElem? hz
   have hxk : (l.map (noteV x y))[k]? = some (noteV x y z) := by rw [List.getElem?_map, hz]; rfl
   have hz8 := hfew z hzm
   obtain ⟨g, o, hga⟩ : ∃ g o, a = some ⟨g, o, none⟩ := by
     obtain ⟨b0, o0, h1, _⟩ := (ownL_slc (G := fun _ => True) codNote (hS.get 15 rfl) (fun _ _ => trivial)).cells k _ hxk
     exact ⟨b0, o0, h1⟩
   subst hga
   have hvl : vs.length = (flyK W.fly l k).length := (hS.get 5 rfl : (cellsE vs (flyK W.fly l k)).holds _).1
   have hfl := flyK_le (l := l) (k := k) hflen
   conv=>whnf
   refine ixO ?_
   conv=>whnf
   refine hS.ldRow codNote 15 (by rfl) hxk rfl ?_
   conv=>whnf
   refine hS.new (fun b6 w2 hb6 hS => ?_)
   conv=>whnf
   refine hS.st 17 rfl (lbO rfl) rfl (fun w3 hS => ?_)
   conv=>whnf
   refine hS.ld 0 rfl rfl ?_
   conv=>whnf
   refine brD (fun h4 => ?_) (fun h4 => ?_)
   · have hmore := flyK_more hz (Int.ofNat_lt.1 h4)
     conv=>whnf
     refine drawT tabOk mixed [4, 5] (fun _ => True) (.take 0 (.take 1 (.take 2 (.take 3 (.alt 4 (.alt 5 (.alt 6 (.alt 7 (.alt 8 (.take 9 (.take 10 (.alt 11 .fin .fin))) .fin) .fin) .fin) .fin) (.alt 5 (.alt 4 (.alt 6 (.alt 7 (.alt 8 (.take 9 (.take 10 (.alt 11 .fin .fin))) .fin) .fin) .fin) (.alt 6 (.alt 4 (.alt 7 (.alt 8 (.take 9 (.take 10 (.alt 11 .fin .fin))) .fin) .fin) (.alt 7 (.alt 4 (.alt 8 (.take 9 (.take 10 (.alt 11 .fin .fin))) .fin) .fin) .fin)) .fin)) .fin)))))) (by kernel_rfl) ?_
     rintro w6 rfl
     replace hS := hS.drew
     have hK := hS.ref (fun _ => True)
     repeat' ((conv => whnf); first | refine RetC.mk ?_ | refine nzO ?_ | refine rgO ?_ | refine ixO ?_ | refine hS.ld 0 rfl rfl (KeepC.mk hK ?_) | refine hS.laX 17 rfl rfl (KeepC.mk hK ?_) | (refine (wown_ok (noteV_is hcell (ownL_slc codCell (hS.get 16 rfl) (fun _ _ => trivial)) hzm).2 (by show z.cells.length ≤ 1000; omega)).mono ?_; rintro v w2 ⟨a', c', rfl, hx, ho, hf⟩; replace hS := hS.made hx ownL_local ho (fun g hg => hf g (by simpa [ownL, own] using hg)); replace hK := hK.trans hx.of_no; clear hx ho hf; refine KeepC.mk hK ?_) | (refine hS.litX Tryz.underlying160 (sz := 5) (by kernel_rfl) (z := .agg (encNV noNV).toArray) (by kernel_rfl) rfl rfl (cs := encNV ((noteV x y z).with a' c')) (by rfl) (fun b9 w3 hb9 hx hS => ?_); replace hK := hK.trans hx.of_no; clear hx; refine KeepC.mk hK ?_) | (refine hS.appX codNote 4 (ys := [(noteV x y z).with a' c']) (G := fun _ => True) Tryz.underlying160 (bytes := 56) (by kernel_rfl) (z := .agg (encNV noNV).toArray) (by kernel_rfl) rfl rfl (Slc.of_blk codNote (hS.blk 19 rfl) rfl (by simp) (fun _ _ => trivial) rfl) (by show vs.length + 1 ≤ _; rw [hvl]; unfold maxLen; omega) (by show (vs.length + 1) * 56 ≤ _; rw [hvl]; omega) (fun fa2 fc2 w9 hx hS => ?_); replace hK := hK.trans (hx.mono fun _ _ => trivial); clear hx; refine KeepC.mk hK ?_) | (refine hS.stK hK 0 rfl (by exact Nat.le_of_ble_eq_true rfl) rfl trivial (fun w' hK hS => KeepC.mk hK ?_)) | refine And.intro ?_ ?_ | (first|apply brD|apply brND|apply brN|apply brI) <;> (intro))
     all_goals
       have hcs : Slc _ 10 encCell (fun _ => True) a' z.cells.length z.cells := ownL_slc codCell (hS.get 18 rfl) (fun _ _ => trivial)
       have hj := ((hS.sel [5, 18, 0, 1, 2, 3, 4, 6, 7, 8, 9, 10, 11, 12, 13, 14, 15, 16] (by decide)).join (g := cellsE (vs ++ [(noteV x y z).with a' c']) (flyK W.fly l k ++ [z])) cellsE_local (cellsE_app (hS.get 5 rfl) (cellsE_one ⟨rfl, rfl, rfl, rfl⟩ hcs)) (fun b hb => by
         obtain ⟨u, hu, hb⟩ := cellsE_foot.1 hb
         rcases List.mem_append.1 hu with hu | hu
         · exact .inl (cellsE_foot.2 ⟨u, hu, hb⟩)
         · obtain rfl := List.mem_singleton.1 hu
           exact .inr (foot_own (footN_own hb)))).sel [1, 2, 3, 4, 5, 0, 6, 7, 8, 9, 10, 11, 12, 13, 14, 15, 16] (by decide)
       refine LoopE.mk ⟨_, [(90, .int .i64 ((k + 1 : Nat) : Int)), (89, _), (88, _), (0, _)], ?_, ⟨rfl, rfl, rfl, rfl, trivial⟩, ⟨k + 1, fa2, fc2, vs ++ [(noteV x y z).with a' c'], rfl, rfl, by omega, ?_⟩⟩
       · omega
       · rw [hmore]
         have hl1 : (X.with fa fc vs ea ec).vs.length + 1 = (flyK W.fly l k ++ [z]).length := by rw [List.length_append, ← hvl]; rfl
         rw [hl1] at hj
         exact hj
   · have hmore := flyK_full (l := l) (k := k) hflen (fun h => h4 (Int.ofNat_lt.2 h))
     conv=>whnf
     refine rgO ?_
     conv=>whnf
     refine LoopE.mk ⟨_, [(90, .int .i64 ((k + 1 : Nat) : Int)), (89, _), (88, _), (0, _)], ?_, ⟨rfl, rfl, rfl, rfl, trivial⟩, ⟨k + 1, fa, fc, vs, rfl, rfl, by omega, ?_⟩⟩
     · omega
     · rw [hmore]
       exact hS.keep 17
 · obtain rfl : k = ll := by omega
   conv=>whnf
   exact hQ _ _ ⟨fa, fc, vs, hS⟩
set_option maxHeartbeats 4000000 in
set_option maxRecDepth 10000 in
theorem wtick_ok (n : Int) (h : Stands E q m w X W) (hm : m + 34 ≤ 40000000) : CallC Tryz.prog 216 #[.pointer (some ⟨X.w, 0, none⟩), .int .i64 n] w fun v w' => v = errV E (W.tick n).1 ∧ ∃ X', X'.w = X.w ∧ Turns w w' (worldH X W) (worldH X' (W.tick n).2) := by
 refine fn_intro tabOk Tryz.func216 (by kernel_rfl) rfl Tryz.ntmps216 (lbO rfl) ?_
 conv=>whnf
 refine (wup_ok n h).mono ?_
 rintro v w1 ⟨rfl, hx⟩
 by_cases hn : n = 0 ∨ n = 1
 case neg =>
   rw [show W.tick n = (2, W) from if_pos (by omega), show W.upErr n = 2 from if_pos (by omega)]
   repeat' ((conv => whnf); first | refine RetC.mk ?_ | refine nzO ?_ | refine rgO ?_ | refine ixO ?_ | (first|apply brD|apply brND|apply brN|apply brI) <;> (intro))
   exact ⟨rfl, X, rfl, Turns.of_no h.has hx⟩
 cases hN : (W.side n).node with
 | none =>
   rw [show W.tick n = (7, W) by unfold WorldS.tick; rw [if_neg (by omega), hN], upErr_none hn hN]
   repeat' ((conv => whnf); first | refine RetC.mk ?_ | refine nzO ?_ | refine rgO ?_ | refine ixO ?_ | (first|apply brD|apply brND|apply brN|apply brI) <;> (intro))
   exact ⟨rfl, X, rfl, Turns.of_no h.has hx⟩
 | some N =>
   rw [show W.tick n = W.ticked n N (N.tick (W.side n).byt) by unfold WorldS.tick; rw [if_neg (by omega), hN], upErr_some hn hN, if_pos rfl]
   obtain ⟨hH, hQ⟩ := h.half hn
   have hnk := ((h.ok.side hn).node N hN).1
   have hBk := (h.ok.side hn).bok
   have hflen := h.ok.fly
   have hevl := h.ok.events
   have hbok := NodeS.tick_bok (N := N) hBk
   have hshort := tick_short N (W.side n).byt
   have hcell := tick_cells N (W.side n).byt
   have hfew := tick_few hnk (W.side n).byt
   have hS := hH.start.no hx
   have hE := h.errs.ext hS.ext hQ
   have hT : ∀ {w'} {s : SideS}, Turns w w' (halfH X W n) (fixH X W (X.side n) (X.side (1 - n)) s (W.side (1 - n)) ++ sideH (X.side n) s) → ∃ X', X'.w = X.w ∧ Turns w w' (worldH X W) (worldH X' (W.setSide n s)) := fun {w'} {s} k => ⟨X, rfl, by
     have := Turns.side h.has hn (Y := X.side n) rfl k
     rwa [setSide_id hn] at this⟩
   have hT2 : ∀ {w'} {s : SideS} {f : List NoteS} {e : List (Int × Int)} {fa : Option Addr} {fc : Nat} {vs : List NoteV} {ea : Option Addr} {ec : Nat}, Turns w w' (halfH X W n) (fixH (X.with fa fc vs ea ec) (W.with f e) (X.side n) (X.side (1 - n)) s (W.side (1 - n)) ++ sideH (X.side n) s) → ∃ X', X'.w = X.w ∧ Turns w w' (worldH X W) (worldH X' ((W.setSide n s).with f e)) := fun {w'} {s} {f} {e} {fa} {fc} {vs} {ea} {ec} k => ⟨X.with fa fc vs ea ec, rfl, by
     rw [← half_with hn] at k
     exact Turns.world h.has hn k rfl (with_side hn s f e)⟩
   have hU : ∀ {w'} {s : SideS}, St w (inF (halfH X W n)) w' (fixH X W (X.side n) (X.side (1 - n)) s (W.side (1 - n)) ++ sideH (X.side n) s) → ∃ X', X'.w = X.w ∧ Turns w w' (worldH X W) (worldH X' (W.setSide n s)) := fun k => hT (St.turns k)
   have hU2 : ∀ {w'} {s : SideS} {f : List NoteS} {e : List (Int × Int)} {fa : Option Addr} {fc : Nat} {vs : List NoteV} {ea : Option Addr} {ec : Nat}, St w (inF (halfH X W n)) w' (fixH (X.with fa fc vs ea ec) (W.with f e) (X.side n) (X.side (1 - n)) s (W.side (1 - n)) ++ sideH (X.side n) s) → ∃ X', X'.w = X.w ∧ Turns w w' (worldH X W) (worldH X' ((W.setSide n s).with f e)) := fun k => hT2 (St.turns k)
   generalize hSS : inF (halfH X W n) = S at hS hU hU2
   rw [half_up hN] at hS hQ
   clear hH hx hT hT2 hSS
   generalize (W.side n).byt = B at *
   conv=>whnf
   refine hS.ld 1 rfl (v := .pointer (some ⟨(X.side n).A.n, 0, none⟩)) rfl ?_
   conv=>whnf
   refine hS.ld 7 rfl rfl ?_
   conv=>whnf
   refine (role_active (hS.blk 8 rfl)).mono ?_
   rintro v w2 ⟨rfl, rfl⟩
   conv=>whnf
   refine hS.ld 1 rfl (v := .pointer (some ⟨(X.side n).A.n, 0, none⟩)) rfl ?_
   conv=>whnf
   have hw3 : Has _ (nodeB (X.side n).A N B) := Has.right (A := [_, _, _, _, _, _, _]) hS.has
   refine (ntick_ok hw3 hnk hBk (by omega) (hE.sub rfl) hQ.app.2).mono ?_
   rintro v w3 ⟨a, c, x, y, rfl, hk⟩
   replace hS := St.callAt (A := fixH X W (X.side n) (X.side (1 - n)) ⟨some N, B⟩ (W.side (1 - n))) (B := []) hS hk
   clear hk hw3
   generalize N.tick B = T at *
   obtain ⟨e, l, N', B'⟩ := T
   dsimp only at *
   replace hS : St w S w3 (tickH X W (X.side n) (X.side (1 - n)) N' B' (W.side (1 - n)) a c x y l) := hS
   have hnl : (l.map (noteV x y)).length = l.length := List.length_map _
   generalize hll : (l.map (noteV x y)).length = ll at hnl
   conv=>whnf
   refine hS.ld 1 rfl rfl ?_
   conv=>whnf
   refine (bpower_ok (hS.blk 14 rfl) hbok.len).mono ?_
   rintro v w4 ⟨rfl, hx⟩
   replace hS := hS.no hx
   clear hx
   have hpl : W.ticked n N (e, l, N', B') = if B'.off = true then (e, W.setSide n ⟨none, B'⟩) else if e ≠ 0 then (e, W.setSide n ⟨some N', B'⟩) else
     (0, (W.setSide n ⟨some N', B'⟩).with (W.fly ++ l.take (200 - W.fly.length)) (if N.role.active = false ∧ N'.role.active = true ∧ W.events.length < 1000 then W.events ++ [(n, N'.role.epoch)] else W.events)) := rfl
   rw [hpl]
   clear hpl
   cases hoff : B'.off
   case true =>
     rw [if_pos rfl]
     conv=>whnf
     refine hS.st 1 rfl (by exact Nat.le_of_ble_eq_true rfl) rfl (fun w' hS => ?_)
     repeat' ((conv => whnf); first | refine RetC.mk ?_ | refine nzO ?_ | refine rgO ?_ | refine ixO ?_ | (first|apply brD|apply brND|apply brN|apply brI) <;> (intro))
     exact ⟨rfl, hU (s := ⟨none, B'⟩) (hS.sel [0, 1, 2, 3, 4, 5, 6, 14] (by decide))⟩
   rw [if_neg (by decide)]
   cases e with
   | succ j =>
     rw [if_pos (Nat.succ_ne_zero j)]
     repeat' ((conv => whnf); first | refine RetC.mk ?_ | refine nzO ?_ | refine rgO ?_ | refine ixO ?_ | (first|apply brD|apply brND|apply brN|apply brI) <;> (intro))
     exact ⟨rfl, hU (s := ⟨some N', B'⟩) (hS.keep 15)⟩
   | zero =>
     rw [if_neg (fun h => h rfl)]
     have hev0 : ∀ {b1 b2 : Bool}, N.role.active = b1 → N'.role.active = b2 → (b1 = true ∨ b2 = false ∨ ¬ W.events.length < 1000) → (if N.role.active = false ∧ N'.role.active = true ∧ W.events.length < 1000 then W.events ++ [(n, N'.role.epoch)] else W.events) = W.events := fun h1 h2 h3 => if_neg (by
       rw [h1, h2]
       rintro ⟨rfl, rfl, h4⟩
       rcases h3 with h3 | h3 | h3
       · cases h3
       · cases h3
       · exact h3 h4)
     have hev1 : N.role.active = false → N'.role.active = true → W.events.length < 1000 → (if N.role.active = false ∧ N'.role.active = true ∧ W.events.length < 1000 then W.events ++ [(n, N'.role.epoch)] else W.events) = W.events ++ [(n, N'.role.epoch)] := fun h1 h2 h3 => if_pos ⟨h1, h2, h3⟩
     replace hS : St w S w4 (tickH (X.with X.fa X.fc X.vs X.ea X.ec) (W.with W.fly W.events) (X.side n) (X.side (1 - n)) N' B' (W.side (1 - n)) a c x y l) := hS
     generalize hev : (if N.role.active = false ∧ N'.role.active = true ∧ W.events.length < 1000 then W.events ++ [(n, N'.role.epoch)] else W.events) = ev
     cases ha : N.role.active
     · (conv => whnf)
       refine hS.ld 1 rfl (v := .pointer (some ⟨(X.side n).A.n, 0, none⟩)) rfl ?_
       conv=>whnf
       refine hS.ld 7 rfl rfl ?_
       conv=>whnf
       refine (role_active (hS.blk 8 rfl)).mono ?_
       rintro v w5 ⟨rfl, rfl⟩
       cases ha2 : N'.role.active
       · rw [← hev.symm.trans (hev0 ha ha2 (.inr (.inl rfl)))] at hS
         generalize X.ea = ea at hS
         generalize X.ec = ec at hS
         clear hev hev0 hev1 ha ha2
         conv=>whnf
         refine tickLoop (ea := ea) (ec := ec) (ev := ev) ⟨rfl, rfl, rfl, rfl, trivial⟩ hS hflen hshort hll hnl hcell hfew ?_
         rintro σ w6 ⟨fa, fc, vs, hS⟩
         rw [flyK_end hnl] at hS
         repeat' ((conv => whnf); first | refine RetC.mk ?_ | refine nzO ?_ | refine rgO ?_ | refine ixO ?_ | (first|apply brD|apply brND|apply brN|apply brI) <;> (intro))
         exact ⟨rfl, hU2 (s := ⟨some N', B'⟩) (hS.keep 15)⟩
       · (conv => whnf)
         refine hS.ld 0 rfl rfl ?_
         conv=>whnf
         refine brD (fun h5 => ?_) (fun h5 => ?_)
         · have hv := hev.symm.trans (hev1 ha ha2 (by exact Int.ofNat_lt.1 h5))
           have hvl : ev.length = W.events.length + 1 := by rw [hv, List.length_append]; rfl
           conv=>whnf
           refine drawT tabOk mixed [4] (evT X W) (.take 0 (.take 1 (.take 2 (.take 3 (.take 5 (.take 6 (.take 7 (.take 8 (.take 9 (.take 10 (.take 11 (.take 12 (.alt 4 (.alt 13 (.take 14 (.alt 15 (.alt 16 (.take 17 (.take 18 (.alt 19 .fin .fin))) .fin) .fin)) .fin) (.alt 13 (.take 14 (.alt 4 (.alt 15 (.alt 16 (.take 17 (.take 18 (.alt 19 .fin .fin))) .fin) .fin) (.alt 15 (.alt 4 (.alt 16 (.take 17 (.take 18 (.alt 19 .fin .fin))) .fin) .fin) .fin))) .fin)))))))))))))) (by kernel_rfl) ?_
           rintro w6 rfl
           replace hS := hS.drew
           have hK := hS.ref (evT X W)
           have hn1 := hS.ne 1 0 rfl rfl (by decide)
           have hn7 := hS.ne 7 0 rfl rfl (by decide)
           have hm1 : (X.side n).s ∉ (ownL 157 2 encEv (.slice X.ea W.events.length X.ec) W.events).foot := hS.apartAt 1 6 rfl rfl (by decide) _ (List.mem_singleton.2 rfl)
           have hm7 : (X.side n).A.n ∉ (ownL 157 2 encEv (.slice X.ea W.events.length X.ec) W.events).foot := hS.apartAt 7 6 rfl rfl (by decide) _ (List.mem_singleton.2 rfl)
           repeat' ((conv => whnf); first | refine RetC.mk ?_ | refine nzO ?_ | refine rgO ?_ | refine ixO ?_ | refine hS.ld 0 rfl rfl (KeepC.mk hK ?_) | refine hS.ldF 1 rfl (v := .pointer (some ⟨(X.side n).A.n, 0, none⟩)) rfl (fun h => h.elim hn1 hm1) ?_ | refine hS.ldF 7 rfl rfl (fun h => h.elim hn7 hm7) ?_ | (refine (role_epoch (hS.blk 8 rfl)).mono ?_; rintro v w7 ⟨rfl, rfl⟩; refine KeepC.mk hK ?_) | (refine hS.litX Tryz.underlying73 (sz := 2) (by kernel_rfl) (z := .agg (encEv (0, 0)).toArray) (by kernel_rfl) rfl rfl (cs := encEv (n, N'.role.epoch)) (by rfl) (fun b9 w8 hb9 hx hS => ?_); replace hK := hK.trans hx.of_no; clear hx; refine KeepC.mk hK ?_) | (refine hS.appX codEv 6 (ys := [(n, N'.role.epoch)]) (G := fun _ => True) Tryz.underlying73 (bytes := 16) (by kernel_rfl) (z := .agg (encEv (0, 0)).toArray) (by kernel_rfl) rfl rfl (Slc.of_blk codEv (hS.blk 17 rfl) rfl (by simp) (fun _ _ => trivial) rfl) (by show W.events.length + 1 ≤ _; unfold maxLen; omega) (by show (W.events.length + 1) * 16 ≤ _; omega) (fun ea ec w9 hx hS => ?_); replace hK := hK.trans (hx.mono fun d hd => .inr (foot_own hd)); clear hx; refine KeepC.mk hK ?_) | (refine hS.stK hK 0 rfl (by exact Nat.le_of_ble_eq_true rfl) rfl (.inl rfl) (fun w' hK hS => KeepC.mk hK ?_)) | refine And.intro ?_ ?_ | (first|apply brD|apply brND|apply brN|apply brI) <;> (intro))
           all_goals
             replace hS := hS.keep 17
             replace hS := hS.as (H' := tickH (X.with X.fa X.fc X.vs ea ec) (W.with W.fly (W.events ++ [(n, N'.role.epoch)])) (X.side n) (X.side (1 - n)) N' B' (W.side (1 - n)) a c x y l) (by
               rw [show (W.with W.fly W.events).events.length + 1 = (W.events ++ [(n, N'.role.epoch)]).length by rw [List.length_append]; rfl]
               rfl)
             rw [← hv] at hS
             clear hev hev0 hev1 ha ha2 hK
             refine tickLoop (ea := ea) (ec := ec) (ev := ev) ⟨rfl, rfl, rfl, rfl, trivial⟩ hS hflen hshort hll hnl hcell hfew ?_
             rintro σ w6 ⟨fa, fc, vs, hS⟩
             rw [flyK_end hnl] at hS
             repeat' ((conv => whnf); first | refine RetC.mk ?_ | refine nzO ?_ | refine rgO ?_ | refine ixO ?_ | (first|apply brD|apply brND|apply brN|apply brI) <;> (intro))
             exact ⟨rfl, hU2 (s := ⟨some N', B'⟩) (hS.keep 15)⟩
         · rw [← hev.symm.trans (hev0 ha ha2 (.inr (.inr fun h => h5 (by exact Int.ofNat_lt.2 h))))] at hS
           generalize X.ea = ea at hS
           generalize X.ec = ec at hS
           clear hev hev0 hev1 ha ha2
           conv=>whnf
           refine tickLoop (ea := ea) (ec := ec) (ev := ev) ⟨rfl, rfl, rfl, rfl, trivial⟩ hS hflen hshort hll hnl hcell hfew ?_
           rintro σ w6 ⟨fa, fc, vs, hS⟩
           rw [flyK_end hnl] at hS
           repeat' ((conv => whnf); first | refine RetC.mk ?_ | refine nzO ?_ | refine rgO ?_ | refine ixO ?_ | (first|apply brD|apply brND|apply brN|apply brI) <;> (intro))
           exact ⟨rfl, hU2 (s := ⟨some N', B'⟩) (hS.keep 15)⟩
     · rw [← hev.symm.trans (hev0 ha rfl (.inl rfl))] at hS
       generalize X.ea = ea at hS
       generalize X.ec = ec at hS
       clear hev hev0 hev1 ha
       conv=>whnf
       refine tickLoop (ea := ea) (ec := ec) (ev := ev) ⟨rfl, rfl, rfl, rfl, trivial⟩ hS hflen hshort hll hnl hcell hfew ?_
       rintro σ w6 ⟨fa, fc, vs, hS⟩
       rw [flyK_end hnl] at hS
       repeat' ((conv => whnf); first | refine RetC.mk ?_ | refine nzO ?_ | refine rgO ?_ | refine ixO ?_ | (first|apply brD|apply brND|apply brN|apply brI) <;> (intro))
       exact ⟨rfl, hU2 (s := ⟨some N', B'⟩) (hS.keep 15)⟩
end
end Go.Proofs.YtogjajjdaoihdaaGreatDoor

namespace Go.Proofs.YtogjajjdaoihdaaGreatDoor
set_option maxRecDepth 20000
open Go Ev
section
variable {w w' : World} {X : WorldA} {W : WorldS} {E : Nat → Addr} {q m : Nat}
def bornCells (s0 s1 : Option Addr) (a : Option Addr) (n c : Nat) : List Value := [.pointer s0, .pointer s1, .slice a n c, .slice none 0 0, .int .i64 (-1), .int .i64 0, .slice none 0 0]
def madeH (bw : Nat) (a : Option Addr) (c : Nat) (xs : List RuleS) (N : Int → NodeS) (B : Int → BytS) (Y Z : SideA) : Nat → List Ent
 | 0 => [blk bw 162 (bornCells none none a xs.length c), ownL 98 5 encRule (.slice a xs.length c) xs]
 | 1 => [blk bw 162 (bornCells (some ⟨Y.s, 0, none⟩) none a xs.length c), ownL 98 5 encRule (.slice a xs.length c) xs, blk Y.s 169 [.pointer (some ⟨Y.A.n, 0, none⟩), .pointer (some ⟨Y.A.b, 0, none⟩)]] ++ nodeB Y.A (N 0) (B 0)
 | _ => [blk bw 162 (bornCells (some ⟨Y.s, 0, none⟩) (some ⟨Z.s, 0, none⟩) a xs.length c), ownL 98 5 encRule (.slice a xs.length c) xs, blk Y.s 169 [.pointer (some ⟨Y.A.n, 0, none⟩), .pointer (some ⟨Y.A.b, 0, none⟩)], blk Z.s 169 [.pointer (some ⟨Z.A.n, 0, none⟩), .pointer (some ⟨Z.A.b, 0, none⟩)]] ++ (nodeB Y.A (N 0) (B 0) ++ nodeB Z.A (N 1) (B 1))
theorem wnew_ok {G : RuleS → Prop} {a : Option Addr} {n c : Nat} {xs : List RuleS} (hx : Slc w 5 encRule G a n xs) (hn : n ≤ 1000) (hE : Errs w E q insErrs) (hq : q ≤ w.heap.size) (h0 : (faultL xs).1 = 0) :
   CallC Tryz.prog 33 #[.slice a n c] w fun v w' => ∃ X, v = .tuple #[.pointer (some ⟨X.w, 0, none⟩), .nilIface] ∧ Ext No w w' ∧ Stands E q 0 w' X (.born xs) ∧ ∀ b, inF (worldH X (.born xs)) b → w.heap.size ≤ b := by
 obtain ⟨hb0, hb1, hok⟩ := WOk.born (fault_good.1 h0)
 have hl := hx.len
 have hby : BOk by0 := ⟨by simp [by0], by decide, by decide⟩
 refine fn_intro tabOk Tryz.func33 (by kernel_rfl) rfl Tryz.ntmps33 (lbO rfl) ?_
 have hS := St.start w No
 conv=>whnf
 refine (rcheck_ok hx (hE.sub rfl)).mono ?_
 rintro v w1 ⟨hF, hx1⟩
 obtain rfl : v = .nilIface := by
   rw [h0] at hF
   rcases hF with ⟨_, h⟩ | ⟨_, h, _⟩
   · exact h
   · exact absurd h (by decide)
 clear hF
 replace hS := hS.no hx1
 conv=>whnf
 refine (rclone_ok (hx.no hS.ext) hn).mono ?_
 rintro v w2 ⟨a2, c2, rfl, hx2, ho, hf⟩
 replace hS := hS.made hx2 ownL_local ho (fun g hg => hf g (by simpa [ownL, own] using hg))
 clear hx1 hx2 ho hf
 conv=>whnf
 refine hS.new (fun bw w3 hbw hS => ?_)
 replace hS := hS.sel [1, 0] (by decide)
 rw [← hl] at hS
 replace hS : St w No w3 (madeH bw a2 c2 xs (fun i => (newN i by0 xs).2.1) (fun i => (newN i by0 xs).2.2) ⟨0, ⟨0, 0, 0, 0, 0, 0, 0, none, 0⟩⟩ ⟨0, ⟨0, 0, 0, 0, 0, 0, 0, none, 0⟩⟩ 0) := hS
 generalize hNf : (fun i => (newN i by0 xs).2.1) = N at hS
 generalize hBf : (fun i => (newN i by0 xs).2.2) = B at hS
 have e0 : N 0 = (newN 0 by0 xs).2.1 ∧ B 0 = (newN 0 by0 xs).2.2 ∧ N 1 = (newN 1 by0 xs).2.1 ∧ B 1 = (newN 1 by0 xs).2.2 := by subst hNf hBf; exact ⟨rfl, rfl, rfl, rfl⟩
 have hbn : WorldS.born xs = ⟨⟨some (N 0), B 0⟩, ⟨some (N 1), B 1⟩, xs, [], -1, 0, []⟩ := by subst hNf hBf; rfl
 rw [hbn] at hok ⊢
 clear hNf hBf hbn
 have hsrc : ∀ {b : Nat}, w.heap.size ≤ b → 0 < n → ∀ b0 o0, a = some ⟨b0, o0, none⟩ → b0 ≠ b := fun hb h1 b0 o0 h2 => by
   obtain ⟨b1, o1, x, _, _, h3, h4, _⟩ := hx.at h1
   rw [h2] at h3
   simp only [Option.some.injEq, Addr.mk.injEq] at h3
   obtain ⟨rfl, _⟩ := h3
   omega
 conv=>whnf
 refine loopR tabOk (fun σ w' q' => ∃ (k : Nat) (Y Z : SideA), σ = [(19, .int .i64 k), (5, .pointer (some ⟨bw, 0, none⟩)), (0, .slice a n c)] ∧ q' = 2 - k ∧ k ≤ 2 ∧ St w No w' (madeH bw a2 c2 xs N B Y Z k))
   (σ' := [(19, .int .i64 ((0 : Nat) : Int)), (5, .pointer (some ⟨bw, 0, none⟩)), (0, .slice a n c)]) (n := 2) ⟨rfl, rfl, rfl, trivial⟩ ⟨0, _, _, rfl, rfl, Nat.zero_le _, hS⟩ ?_
 clear hS
 rintro _ w4 q' ⟨k, Y, Z, rfl, rfl, hk, hS⟩
 conv=>whnf
 refine brD (fun h3 => ?_) (fun h3 => ?_)
 · have hk2 : k = 0 ∨ k = 1 := by omega
   rcases hk2 with rfl | rfl
   · have hsz := hS.ext.size
     conv=>whnf
     refine (newBytes_ok _).mono ?_
     rintro v w5 ⟨bb, rfl, hbb, hxb, hB⟩
     replace hS := hS.made hxb (blk_local _ _ _) hB (by simp [blk]; exact ⟨hbb, hB.lt⟩)
     have hwb : w.heap.size ≤ bb := Nat.le_trans hsz hbb
     clear hxb hB
     conv=>whnf
     refine (nnew_ok 0 (.inl rfl) (hx.no hS.ext) hn h0 (hsrc hwb) (hS.blk 2 rfl) hby rfl ((hE.ext hS.ext fun _ h => h.elim).sub rfl) (Nat.le_trans hq hwb)).mono ?_
     rintro v w6 hnew
     rcases hnew with ⟨_, A, hAb, rfl, hk6⟩ | ⟨h9, _⟩
     case inr => exact absurd hb0 h9
     rw [← e0.1, ← e0.2.1] at hk6
     have hS2 := St.callAt (A := [_, _]) (B := []) hS hk6
     subst hAb
     conv=>whnf
     refine hS2.new (fun bs w7 hbs hS => ?_)
     conv=>whnf
     refine IdxC.mk (by decide) (by decide) ?_
     conv=>whnf
     refine hS.st 0 rfl (lbO rfl) rfl (fun w8 hS => ?_)
     conv=>whnf
     refine rgO ?_
     conv=>whnf
     refine LoopE.mk ⟨_, [(19, .int .i64 ((1 : Nat) : Int)), (5, _), (0, _)], ?_, ⟨rfl, rfl, rfl, trivial⟩, ⟨1, ⟨bs, A⟩, Z, rfl, rfl, by omega, hS.sel [0, 1, 10, 2, 3, 4, 5, 6, 7, 8, 9] (by decide)⟩⟩
     omega
   · have hsz := hS.ext.size
     conv=>whnf
     refine (newBytes_ok _).mono ?_
     rintro v w5 ⟨bb, rfl, hbb, hxb, hB⟩
     replace hS := hS.made hxb (blk_local _ _ _) hB (by simp [blk]; exact ⟨hbb, hB.lt⟩)
     have hwb : w.heap.size ≤ bb := Nat.le_trans hsz hbb
     clear hxb hB
     conv=>whnf
     refine (nnew_ok 1 (.inr rfl) (hx.no hS.ext) hn h0 (hsrc hwb) (hS.blk 11 rfl) hby rfl ((hE.ext hS.ext fun _ h => h.elim).sub rfl) (Nat.le_trans hq hwb)).mono ?_
     rintro v w6 hnew
     rcases hnew with ⟨_, A, hAb, rfl, hk6⟩ | ⟨h9, _⟩
     case inr => exact absurd hb1 h9
     rw [← e0.2.2.1, ← e0.2.2.2] at hk6
     have hS2 := St.callAt (A := [_, _, _, _, _, _, _, _, _, _, _]) (B := []) hS hk6
     subst hAb
     conv=>whnf
     refine hS2.new (fun bs w7 hbs hS => ?_)
     conv=>whnf
     refine IdxC.mk (by decide) (by decide) ?_
     conv=>whnf
     refine hS.st 0 rfl (lbO rfl) rfl (fun w8 hS => ?_)
     conv=>whnf
     refine rgO ?_
     conv=>whnf
     refine LoopE.mk ⟨_, [(19, .int .i64 ((2 : Nat) : Int)), (5, _), (0, _)], ?_, ⟨rfl, rfl, rfl, trivial⟩, ⟨2, Y, ⟨bs, A⟩, rfl, rfl, by omega, hS.sel [0, 1, 2, 19, 3, 4, 5, 6, 7, 8, 9, 10, 11, 12, 13, 14, 15, 16, 17, 18] (by decide)⟩⟩
     omega
 · obtain rfl : k = 2 := by omega
   have hS2 := (((hS.addNil 350 5 encNV).add (e := cellsE [] []) cellsE_local (cellsE_nil _) (fun b hb => by simp [cellsE] at hb) (fun f _ b _ hb => by simp [cellsE] at hb)).addNil 157 2 encEv).sel [0, 2, 3, 1, 20, 21, 22, 4, 5, 6, 7, 8, 9, 10, 11, 12, 13, 14, 15, 16, 17, 18, 19] (by decide)
   replace hS2 : St w No w4 (worldH ⟨bw, Y, Z, a2, c2, none, 0, [], none, 0⟩ ⟨⟨some (N 0), B 0⟩, ⟨some (N 1), B 1⟩, xs, [], -1, 0, []⟩) := hS2
   have hfr : ∀ b, inF (worldH ⟨bw, Y, Z, a2, c2, none, 0, [], none, 0⟩ ⟨⟨some (N 0), B 0⟩, ⟨some (N 1), B 1⟩, xs, [], -1, 0, []⟩) b → w.heap.size ≤ b := fun b ⟨e, he, hb⟩ => (hS2.may e he b hb).1.elim (fun h => h.elim) id
   repeat' ((conv => whnf); first | refine RetC.mk ?_ | refine nzO ?_ | refine rgO ?_ | refine ixO ?_ | (first|apply brD|apply brND|apply brN|apply brI) <;> (intro))
   exact ⟨⟨bw, Y, Z, a2, c2, none, 0, [], none, 0⟩, rfl, hS2.ext, ⟨hS2.has, hok, hE.ext hS2.ext fun _ h => h.elim, fun b hb => Nat.le_trans hq (hfr b hb)⟩, hfr⟩
end
end Go.Proofs.YtogjajjdaoihdaaGreatDoor

namespace Go.Proofs.YtogjajjdaoihdaaGreatDoor
set_option maxRecDepth 20000
open Go Ev
section
variable {w w' : World} {X : WorldA} {W : WorldS} {E : Nat → Addr} {q m : Nat}
end
end Go.Proofs.YtogjajjdaoihdaaGreatDoor

namespace Go.Proofs.YtogjajjdaoihdaaGreatDoor
set_option maxRecDepth 20000
open Go Ev
section
variable {w w' : World} {X : WorldA} {W : WorldS} {E : Nat → Addr} {q m : Nat}
abbrev Does (E : Nat → Addr) (w : World) (X : WorldA) (W : WorldS) (r : Nat × WorldS) (v : Value) (w' : World) : Prop := v = errV E r.1 ∧ ∃ X', X'.w = X.w ∧ Turns w w' (worldH X W) (worldH X' r.2)
theorem pticks_ok (n : Int) (k : Nat) (h : Stands E q m w X W) (hm : m + 34 * k ≤ 40000000) : CallC Tryz.prog 138 #[.pointer (some ⟨X.w, 0, none⟩), .int .i64 n, .int .i64 (k : Int)] w (Does E w X W (W.ticks n k)) := by
 refine fn_intro tabOk Tryz.func138 (by kernel_rfl) rfl Tryz.ntmps138 (lbO rfl) ?_
 conv=>whnf
 refine loopR tabOk (fun σ w' r => ∃ (i : Nat) (X' : WorldA) (W' : WorldS), σ = [(9, .int .i64 i), (8, .int .i64 (k : Int)), (1, .int .i64 n), (0, .pointer (some ⟨X.w, 0, none⟩))] ∧ r = k - i ∧ i ≤ k ∧ X'.w = X.w ∧ Stands E q (m + 34 * i) w' X' W' ∧ Turns w w' (worldH X W) (worldH X' W') ∧ W.ticks n k = W'.ticks n (k - i))
   (σ' := [(9, .int .i64 ((0 : Nat) : Int)), (8, .int .i64 (k : Int)), (1, .int .i64 n), (0, .pointer (some ⟨X.w, 0, none⟩))]) (n := k) ⟨rfl, rfl, rfl, rfl, trivial⟩ ⟨0, X, W, rfl, rfl, Nat.zero_le _, rfl, h, Turns.refl h.has, rfl⟩ ?_
 rintro _ w1 r ⟨i, X', W', rfl, rfl, hi, hw, hst, hT, hr⟩
 conv=>whnf
 refine brD (fun h3 => ?_) (fun h3 => ?_)
 · obtain ⟨j, hj⟩ : ∃ j, k - i = j + 1 := ⟨k - i - 1, by omega⟩
   rw [hj] at hr
   conv=>whnf
   rw [← hw]
   refine (wtick_ok n hst (by omega)).mono ?_
   rintro v w2 ⟨rfl, X2, hw2, hT2⟩
   have hst2 := hst.turns hT2 (hst.ok.tick (by omega) n)
   have hT3 := hT.trans hT2
   cases he : (W'.tick n).1 with
   | zero =>
     have hr2 : W.ticks n k = (W'.tick n).2.ticks n j := by
       rw [hr]
       show (if (W'.tick n).1 ≠ 0 then _ else _) = _
       rw [if_neg (fun h => h he)]
     conv=>whnf
     refine rgO ?_
     conv=>whnf
     refine LoopE.mk ⟨_, [(9, .int .i64 ((i + 1 : Nat) : Int)), (8, _), (1, _), (0, _)], ?_, ⟨rfl, rfl, rfl, rfl, trivial⟩, ⟨i + 1, X2, (W'.tick n).2, rfl, rfl, by omega, hw2, hst2, hT3, by rw [hr2]; congr 1; omega⟩⟩
     omega
   | succ e =>
     have hr2 : W.ticks n k = W'.tick n := by
       rw [hr]
       show (if (W'.tick n).1 ≠ 0 then _ else _) = _
       rw [if_pos (by rw [he]; exact Nat.succ_ne_zero e)]
     repeat' ((conv => whnf); first | refine RetC.mk ?_ | refine nzO ?_ | refine rgO ?_ | refine ixO ?_ | (first|apply brD|apply brND|apply brN|apply brI) <;> (intro))
     rw [hr2]
     exact ⟨by rw [he], X2, hw2.trans hw, hT3⟩
 · obtain rfl : i = k := by omega
   rw [Nat.sub_self] at hr
   repeat' ((conv => whnf); first | refine RetC.mk ?_ | refine nzO ?_ | refine rgO ?_ | refine ixO ?_ | (first|apply brD|apply brND|apply brN|apply brI) <;> (intro))
   rw [hr]
   exact ⟨rfl, X', hw, hT⟩
end
end Go.Proofs.YtogjajjdaoihdaaGreatDoor

namespace Go.Proofs.YtogjajjdaoihdaaGreatDoor
set_option maxRecDepth 20000
open Go Ev
def WorldS.say (W : WorldS) (v : Int) : Int × WorldS := if v < 0 then (-1, W) else (((W.one v).1 : Nat), (W.one v).2)
section
variable {w w' : World} {X : WorldA} {W : WorldS} {E : Nat → Addr} {q m : Nat}
end
end Go.Proofs.YtogjajjdaoihdaaGreatDoor

namespace Go.Proofs.YtogjajjdaoihdaaGreatDoor
set_option maxRecDepth 20000
open Go Ev
theorem setSide_fly (W : WorldS) (n : Int) (s : SideS) : (W.setSide n s).fly = W.fly := by
 unfold WorldS.setSide
 split <;> rfl
theorem got_fly (W : WorldS) (x : NoteS) : (W.got x).fly = W.fly := by
 unfold WorldS.got
 repeat' split
 all_goals first | rfl | exact setSide_fly _ _ _
theorem deliver0 {W : WorldS} {j : Nat} (h : W.fly.length = j + 1) : (W.deliver 0).1 = 0 ∧ (W.deliver 0).2.fly.length = j := by
 unfold WorldS.deliver
 have ha : W.at_ 0 = 0 := by unfold WorldS.at_; rw [if_neg (by omega)]
 rw [if_neg (fun h => h ha)]
 obtain ⟨x, hx⟩ : ∃ x, W.fly[(0 : Int).toNat]? = some x := ⟨_, List.getElem?_eq_getElem (show 0 < W.fly.length by omega)⟩
 rw [hx]
 refine ⟨rfl, ?_⟩
 show ((W.off 0).got x).fly.length = j
 rw [got_fly]
 show (W.fly.eraseIdx 0).length = j
 rw [List.length_eraseIdx, if_pos (by omega)]
 omega
theorem deliver_none {W : WorldS} (h : W.fly.length = 0) : W.deliver 0 = (4, W) := by
 have ha : W.at_ 0 = 4 := by unfold WorldS.at_; rw [if_pos (by omega)]
 unfold WorldS.deliver
 rw [if_pos (by rw [ha]; decide), ha]
section
variable {w w' : World} {X : WorldA} {W : WorldS} {E : Nat → Addr} {q m : Nat}
end
end Go.Proofs.YtogjajjdaoihdaaGreatDoor

namespace Go.Proofs.YtogjajjdaoihdaaGreatDoor
set_option maxRecDepth 20000
open Go Ev

theorem rbyte_ok (n : Nat) (hn : n < 256) (w : World) : CallC Tryz.prog 184 #[.int .i64 (n : Int)] w fun v w' => v = .string (bs [UInt8.ofNat n]) ∧ Ext No w w' := by
 have hb : ((UInt8.ofNat n).toNat : Int) = (n : Int) := by rw [byte_of]; omega
 refine fn_intro tabOk Tryz.func184 (by kernel_rfl) rfl Tryz.ntmps184 (lbO rfl) ?_
 have hS := St.start w No
 conv=>whnf
 refine convI (kd := .u8) (m := ((UInt8.ofNat n).toNat : Int)) (by kernel_rfl) Tryz.underlying5 (by rw [IntKind.wrap_u8', hb]; omega) ?_
 conv=>whnf
 refine hS.lit (cs := encU (UInt8.ofNat n)) Tryz.underlying192 (sz := 1) (by kernel_rfl) (z := .int .u8 0) (by kernel_rfl) rfl rfl (by rfl) (fun bz w' hbz hS => ?_)
 have h0 : CellsAt w' bz 0 ([UInt8.ofNat n].flatMap encU) := (hS.blk 0 rfl).cells rfl
 conv=>whnf
 refine strC Tryz.underlying192 Tryz.underlying5 Tryz.underlying9 h0 rfl ?_
 repeat' ((conv => whnf); first | refine RetC.mk ?_ | refine nzO ?_ | refine rgO ?_ | refine ixO ?_ | (first|apply brD|apply brND|apply brN|apply brI) <;> (intro))
 exact ⟨rfl, hS.ext⟩
end Go.Proofs.YtogjajjdaoihdaaGreatDoor

namespace Go.Proofs.YtogjajjdaoihdaaGreatDoor
set_option maxRecDepth 20000
open Go Ev
section
variable {w w' : World} {X : WorldA} {W : WorldS} {E : Nat → Addr} {q m : Nat}
end
end Go.Proofs.YtogjajjdaoihdaaGreatDoor

namespace Go.Proofs.YtogjajjdaoihdaaGreatDoor
set_option maxRecDepth 20000
open Go Ev
section
variable {w : World} {b : Nat} {r : RoleS}
end
end Go.Proofs.YtogjajjdaoihdaaGreatDoor

namespace Go.Proofs.YtogjajjdaoihdaaGreatDoor
set_option maxRecDepth 20000
open Go Ev

end Go.Proofs.YtogjajjdaoihdaaGreatDoor

namespace Go.Proofs.YtogjajjdaoihdaaGreatDoor
set_option maxRecDepth 20000
open Go Ev

structure RBy where
 data : List UInt8
 off : Bool
 left : Int
 bnd : Bool
section
variable {w : World} {b : Nat} {B : BytS} {R : RBy}
end
end Go.Proofs.YtogjajjdaoihdaaGreatDoor

namespace Go.Proofs.YtogjajjdaoihdaaGreatDoor
set_option maxRecDepth 20000
open Go Ev

def RBy.cutN (R : RBy) (m : Nat) : Nat := if R.off = true then 0 else if R.bnd = true ∧ R.left < m then R.left.toNat else m
def RBy.offN (R : RBy) (m : Nat) : Bool := if R.off = true then true else if R.bnd = true ∧ R.left < m then true else false
def RBy.write (R : RBy) (p : Nat) (s : List UInt8) : Bool × RBy := (!R.offN s.length, ⟨laid R.data p (s.take (R.cutN s.length)), R.offN s.length, R.left - R.cutN s.length, R.bnd⟩)
section
variable {w : World} {b : Nat} {R : RBy}
end
end Go.Proofs.YtogjajjdaoihdaaGreatDoor

namespace Go.Proofs.YtogjajjdaoihdaaGreatDoor
set_option maxRecDepth 20000
open Go Ev

section
variable {w : World} {b c : Nat} {R : RBy}
end
end Go.Proofs.YtogjajjdaoihdaaGreatDoor

namespace Go.Proofs.YtogjajjdaoihdaaGreatDoor
set_option maxRecDepth 20000
open Go Ev

section
variable {w : World} {b c : Nat} {B : BytS} {R : RBy}
end
end Go.Proofs.YtogjajjdaoihdaaGreatDoor

namespace Go.Proofs.YtogjajjdaoihdaaGreatDoor
set_option maxRecDepth 20000
open Go Ev

structure RNodeA where
 n : Nat
 r : Nat
 c : Nat
 t : Nat
 tg : Nat
 tc : Nat
 x : Nat
 xg : Nat
 xc : Nat
 m : Nat
 mg : Nat
 mc : Nat
 b : Nat
 ra : Option Addr
 rc : Nat
section
variable {w : World} {A : RNodeA} {N : NodeS} {R : RBy}
end
end Go.Proofs.YtogjajjdaoihdaaGreatDoor

namespace Go.Proofs.YtogjajjdaoihdaaGreatDoor
set_option maxRecDepth 20000
open Go Ev

section
variable {w : World} {b : Nat} {r : RoleS}

end

end Go.Proofs.YtogjajjdaoihdaaGreatDoor

namespace Go.Proofs.YtogjajjdaoihdaaGreatDoor
set_option maxRecDepth 20000
open Go Ev
section
variable {w : World} {A : RNodeA} {N : NodeS} {R : RBy} {B : BytS}
end
end Go.Proofs.YtogjajjdaoihdaaGreatDoor

namespace Go.Proofs.YtogjajjdaoihdaaGreatDoor
set_option maxRecDepth 20000
open Go Ev
section
variable {w : World} {A : RNodeA} {N : NodeS} {R : RBy} {B : BytS}
end
end Go.Proofs.YtogjajjdaoihdaaGreatDoor

namespace Go.Proofs.YtogjajjdaoihdaaGreatDoor
set_option maxRecDepth 20000
open Go Ev
section
variable {w : World}
end
end Go.Proofs.YtogjajjdaoihdaaGreatDoor

namespace Go.Proofs.YtogjajjdaoihdaaGreatDoor
set_option maxRecDepth 20000
open Go Ev
theorem Ev.St.madeAll {w0 w w' : World} {S : Nat → Prop} {H L : List Ent} (h : St w0 S w H) (hx : Ext No w w') (hL : Has w' L) (hf : ∀ b, inF L b → w.heap.size ≤ b) : St w0 S w' (H ++ L) := by
 have h1 := h.no hx
 refine ⟨h1.ext, ?_, ?_, ?_, ?_⟩
 · intro e he
   rcases List.mem_append.1 he with he | he
   · exact h1.each e he
   · exact hL.each e he
 · intro e he
   rcases List.mem_append.1 he with he | he
   · exact h1.loc e he
   · exact hL.loc e he
 · intro e he b hb
   rcases List.mem_append.1 he with he | he
   · exact h1.may e he b hb
   · exact ⟨.inr (Nat.le_trans h.ext.size (hf b ⟨e, he, hb⟩)), hL.lt e he b hb⟩
 · refine List.pairwise_append.2 ⟨h1.apart, hL.apart, fun e he f hf' b hb hb' => ?_⟩
   have h2 := (h.may e he b hb).2
   have h3 := hf b ⟨f, hf', hb'⟩
   omega
section
variable {w w' : World}
theorem Ev.St.rowFirst {α : Type} {w0 w : World} {S : Nat → Prop} {H : List Ent} (h : St w0 S w H) (e : TypeId) (sz : Nat) (enc : α → List Value) : St w0 S w ([ownL e sz enc (.slice none 0 0) []] ++ H) := (h.addNil e sz enc).perm List.perm_append_comm
end
end Go.Proofs.YtogjajjdaoihdaaGreatDoor

namespace Go.Proofs.YtogjajjdaoihdaaGreatDoor
set_option maxRecDepth 20000
open Go Ev
structure RWorldA where
 w : Nat
 na : Option Addr
 nc : Nat
 ba : Option Addr
 bc : Nat
 ra : Option Addr
 rc : Nat
 la : Option Addr
 lc : Nat
 vs : List NoteV
 ea : Option Addr
 ec : Nat
 a : RNodeA
 b : RNodeA
def RWorldA.side (Y : RWorldA) (n : Int) : RNodeA := if n = 0 then Y.a else Y.b
def RWorldA.setSide (Y : RWorldA) (n : Int) (A : RNodeA) : RWorldA := if n = 0 then { Y with a := A } else { Y with b := A }
structure RBys where
 a : RBy
 b : RBy
def RBys.side (R : RBys) (n : Int) : RBy := if n = 0 then R.a else R.b
def RBys.setSide (R : RBys) (n : Int) (s : RBy) : RBys := if n = 0 then { R with a := s } else { R with b := s }
def two (n : Int) (p q : Option Addr) : List (Option Addr) := if n = 0 then [p, q] else [q, p]
section
variable {w w' w0 : World} {Y : RWorldA} {W : WorldS} {R : RBys} {m j : Nat}
end
end Go.Proofs.YtogjajjdaoihdaaGreatDoor

namespace Go.Proofs.YtogjajjdaoihdaaGreatDoor
set_option maxRecDepth 20000
open Go Ev
section
variable {w w' w0 : World} {Y : RWorldA} {W : WorldS} {R : RBys} {m j : Nat}
end
end Go.Proofs.YtogjajjdaoihdaaGreatDoor

namespace Go.Proofs.YtogjajjdaoihdaaGreatDoor
set_option maxRecDepth 20000
open Go Ev
section
variable {w w' w0 : World} {Y : RWorldA} {W : WorldS} {R : RBys} {m j : Nat}
end
end Go.Proofs.YtogjajjdaoihdaaGreatDoor

namespace Go.Proofs.YtogjajjdaoihdaaGreatDoor
set_option maxRecDepth 20000
open Go Ev
section
variable {w w' w0 : World} {Y : RWorldA} {W : WorldS} {R : RBys} {m j : Nat}
def RWorldA.off (Y : RWorldA) (la : Option Addr) (lc : Nat) (i : Nat) : RWorldA := { Y with la := la, lc := lc, vs := Y.vs.eraseIdx i }
end
end Go.Proofs.YtogjajjdaoihdaaGreatDoor

namespace Go.Proofs.YtogjajjdaoihdaaGreatDoor
set_option maxRecDepth 20000
open Go Ev
section
variable {w w' w0 : World} {Y : RWorldA} {W : WorldS} {R : RBys} {m j : Nat}
end
end Go.Proofs.YtogjajjdaoihdaaGreatDoor

namespace Go.Proofs.YtogjajjdaoihdaaGreatDoor
set_option maxRecDepth 20000
open Go Ev
section
variable {w w' w0 : World} {Y : RWorldA} {W : WorldS} {R : RBys} {m j : Nat}
def RWorldA.with (Y : RWorldA) (la : Option Addr) (lc : Nat) (vs : List NoteV) (ea : Option Addr) (ec : Nat) : RWorldA := { Y with la := la, lc := lc, vs := vs, ea := ea, ec := ec }
end
end Go.Proofs.YtogjajjdaoihdaaGreatDoor

namespace Go.Proofs.YtogjajjdaoihdaaGreatDoor
set_option maxRecDepth 20000
open Go Ev
section
variable {w w' w0 : World} {Y : RWorldA} {W : WorldS} {R : RBys} {m j : Nat}
end
end Go.Proofs.YtogjajjdaoihdaaGreatDoor

namespace Go.Proofs.YtogjajjdaoihdaaGreatDoor
set_option maxRecDepth 20000
open Go Ev
section
variable {w w' w0 : World} {Y : RWorldA} {W : WorldS} {R : RBys} {m j : Nat}
end
end Go.Proofs.YtogjajjdaoihdaaGreatDoor

namespace Go.Proofs.YtogjajjdaoihdaaGreatDoor
set_option maxRecDepth 20000
open Go Ev
section
variable {w w' w0 : World} {Y : RWorldA} {W : WorldS} {R : RBys} {m j : Nat}
end
end Go.Proofs.YtogjajjdaoihdaaGreatDoor

namespace Go.Proofs.YtogjajjdaoihdaaGreatDoor
set_option maxRecDepth 20000
open Go Ev
section
variable {w w' w0 : World} {Y : RWorldA} {W : WorldS} {R : RBys} {m j : Nat}
set_option maxRecDepth 10000 in
end
end Go.Proofs.YtogjajjdaoihdaaGreatDoor

namespace Go.Proofs.YtogjajjdaoihdaaGreatDoor
set_option maxRecDepth 20000
open Go Ev
section
variable {w : World}
end
end Go.Proofs.YtogjajjdaoihdaaGreatDoor

namespace Go.Proofs.YtogjajjdaoihdaaGreatDoor
set_option maxRecDepth 20000
open Go Ev
section
variable {w w' w0 : World} {X : WorldA} {Y : RWorldA} {W : WorldS} {R : RBys} {m j q : Nat} {E : Nat → Addr}
set_option maxRecDepth 10000 in
set_option maxHeartbeats 1000000 in
end
end Go.Proofs.YtogjajjdaoihdaaGreatDoor

namespace Go.Proofs.YtogjajjdaoihdaaGreatDoor
set_option maxRecDepth 20000
open Go Ev
structure StepW where
 kind : ByteArray
 s : Int
 n : Int
 p : PktS
 ra : Option Addr
 rn : Nat
 rc : Nat
 rules : List RuleS
structure StepW.Ok (W : World) (a : StepW) : Prop where
 rules : Slc W 5 encRule (fun _ => True) a.ra a.rn a.rules
 s : I64 a.s
 n : I64 a.n
section
variable {W w : World}
theorem stp_str {e d : Nat} {t : TypeId} {v : Value} (he : e = d + 1) (hu : Tryz.prog.underlying t = some .string) (h : Shp Tryz.prog w e t [v]) : ∃ s, v = .string s := by
 subst he
 unfold Shp at h
 rw [hu] at h
 obtain ⟨s, h, _⟩ := h
 simp only [List.cons.injEq, and_true] at h
 exact ⟨s, h⟩
end
end Go.Proofs.YtogjajjdaoihdaaGreatDoor

namespace Go.Proofs.YtogjajjdaoihdaaGreatDoor
set_option maxRecDepth 20000
open Go Ev

section
variable {w : World} {G G' : RuleS → Prop} {a b : Option Addr} {n m c d : Nat} {xs ys : List RuleS}
end
end Go.Proofs.YtogjajjdaoihdaaGreatDoor

namespace Go.Proofs.YtogjajjdaoihdaaGreatDoor
set_option maxRecDepth 20000
open Go
theorem leaving_of_handed {a : Assume} {C : Checked} {os : Os} {f : FuncId} {r : Reach} {Pre : World → Array Value → Prop} {Post : World → Array Value → Value → World → Prop}
   (h : ReturnsInHanded a C os f r Pre Post) : ReturnsInLeavingWide a C os f r Pre Post := fun enter => by
 obtain ⟨h1, h2, h3, h4, h5⟩ := h enter
 refine ⟨h1, h2, h3, h4, fun w tape i hf => ?_⟩
 obtain ⟨n, v, w', a1, a2, a3, a4, ⟨j, last, b1, b2, b3⟩, a5⟩ := h5 w tape i hf
 exact ⟨n, v, w', a1, a2, a3, a4, ⟨j, last, b1, b2, b3.2.1, onlyLeaving_of_quiet b3.1, b3.2.2⟩, a5⟩
theorem holds_tied_goes (Lk : Looks) {p : Pinned} {s : OpenSpec} {c : OpenClaim} (al : List (List PathCond)) (kinds : List LaidKind) (tests : Bool) (har : Bool × String) (lk : Bool)
   (hc : c.holds p s) (hal : ∀ D ∈ al, (c.withDomain D).holds p s) (hw : c.wfByText s = true) (hwal : ∀ D ∈ al, (c.withDomain D).wfByText s = true)
   (htie : c.laidByTextAt Lk p kinds tests)
   (hst : c.start = .entering) (hnb : c.noBlocks = false ∧ c.again = false) (hm : p.checked.prog.mainIs = some (har.1, har.2.toList)) (hn : (!har.1 && har.2.isEmpty && !lk) = false)
   (hl : ∀ f fn, p.checked.prog.funcNamed c.func = some f → p.checked.prog.funcs[f]? = some fn → lk = p.checked.prog.looks [] ∧ ∀ (j : Nat) t, fn.params[j]? = some t → p.checked.prog.wantsStandIn t = false)
   (hg : true = c.goesBy p.checked.prog) :
   Claim7.holds p (.plain s) { stood := { row := c, standIns := [], harness := har, looks := lk }, kinds := [], alts := al, goes := true, laidByText := true, laidKinds := kinds, laidTests := tests, laidLooks := Lk } := by
 have h6 : ∀ r : OpenClaim, Claim7.isSixth { stood := { row := r, standIns := [], harness := har, looks := lk }, kinds := [] } = false := fun r => by simpa [Claim7.isSixth] using hn
 refine ⟨Claim7.tied_new_at Lk kinds tests (Claim7.new_of_sixth hc har lk hst hnb hm (h6 c) hl) hw, fun D hD => ?_, htie, (fun h => by cases h), hg⟩
 exact Claim7.tied_new_at Lk kinds tests (Claim7.new_of_sixth (hal D hD) har lk hst hnb hm (h6 _) hl) (hwal D hD)
end Go.Proofs.YtogjajjdaoihdaaGreatDoor
