/-
  Texts of this claim, joined: WorldF, ErrNum, PlayS, WorldG, RefHear, RefNum, RefSum, RefByt, RefBytW, RefOpen, RefCell.
-/
import Derived.Test.YtoaghhcjlfiflaaGreatDoorWorldStepsG
import Derived.Lib.BufferWrite

namespace Go.Proofs.YtoaghhcjlfiflaaGreatDoor
open Go Ev
section
variable {w w' : World} {X : WorldA} {W : WorldS} {E : Nat → Addr} {q m : Nat}
def WorldS.with (W : WorldS) (f : List NoteS) (e : List (Int × Int)) : WorldS := { W with fly := f, events := e }
def WorldA.with (X : WorldA) (fa : Option Addr) (fc : Nat) (vs : List NoteV) (ea : Option Addr) (ec : Nat) : WorldA := { X with fa := fa, fc := fc, vs := vs, ea := ea, ec := ec }
theorem half_with {n : Int} (hn : n = 0 ∨ n = 1) (s : SideS) (f : List NoteS) (e : List (Int × Int)) (fa : Option Addr) (fc : Nat) (vs : List NoteV) (ea : Option Addr) (ec : Nat) :
    halfH (X.with fa fc vs ea ec) ((W.setSide n s).with f e) n = fixH (X.with fa fc vs ea ec) (W.with f e) (X.side n) (X.side (1 - n)) s (W.side (1 - n)) ++ sideH (X.side n) s := by
  rcases hn with rfl | rfl <;> rfl
theorem with_side {n : Int} (hn : n = 0 ∨ n = 1) (s : SideS) (f : List NoteS) (e : List (Int × Int)) : ((W.setSide n s).with f e).side (1 - n) = W.side (1 - n) := by
  rcases hn with rfl | rfl <;> rfl
theorem noteV_is {l : List NoteS} {x : Option Addr} {y : Nat} (hl : ∀ n ∈ l, (n.claim = true ∧ n.cells = []) ∨ (n.claim = false ∧ n.cells = cellsOfN l)) (h1 : Slc w 10 encCell (fun _ => True) x (cellsOfN l).length (cellsOfN l)) {n : NoteS} (hn : n ∈ l) : NoteIs (noteV x y n) n ∧ Slc w 10 encCell (fun _ => True) (noteV x y n).a (noteV x y n).n n.cells := by
  refine ⟨⟨rfl, rfl, rfl, rfl⟩, ?_⟩
  rcases hl n hn with ⟨h3, h4⟩ | ⟨h3, h4⟩
  · simp only [noteV, h4]
    exact slc_nil _ _ _ _ _
  · simp only [noteV, h3, h4]
    exact h1
def evT (X : WorldA) (W : WorldS) : Nat → Prop := fun d => d = X.w ∨ d ∈ (ownL 64 2 encEv (.slice X.ea W.events.length X.ec) W.events).foot
def flyK (F : List NoteS) (l : List NoteS) (k : Nat) : List NoteS := F ++ (l.take k).take (200 - F.length)
theorem flyK_more {F l : List NoteS} {k : Nat} {x : NoteS} (hx : l[k]? = some x) (h : (flyK F l k).length < 200) : flyK F l (k + 1) = flyK F l k ++ [x] := by
  have hk := (List.getElem?_eq_some_iff.1 hx).1
  unfold flyK at h ⊢
  rw [List.length_append, List.length_take, List.length_take] at h
  rw [List.take_take, List.take_take, Nat.min_eq_right (by omega), Nat.min_eq_right (by omega), List.take_add_one, hx, List.append_assoc]
  rfl
theorem flyK_full {F l : List NoteS} {k : Nat} (hF : F.length ≤ 200) (h : ¬ (flyK F l k).length < 200) : flyK F l (k + 1) = flyK F l k := by
  unfold flyK at h ⊢
  rw [List.length_append, List.length_take, List.length_take] at h
  rw [List.take_take, List.take_take, Nat.min_eq_left (by omega), Nat.min_eq_left (by omega)]
theorem flyK_le {F l : List NoteS} {k : Nat} (hF : F.length ≤ 200) : (flyK F l k).length ≤ 200 := by
  unfold flyK
  rw [List.length_append, List.length_take]
  omega
abbrev tickH (X : WorldA) (W : WorldS) (Y Z : SideA) (N : NodeS) (B : BytS) (t : SideS) (a : Option Addr) (c : Nat) (x : Option Addr) (y : Nat) (l : List NoteS) : List Ent :=
  fixH X W Y Z ⟨some N, B⟩ t ++ (nodeB Y.A N B ++ noteH a c x y l)
theorem flyK_zero (F l : List NoteS) : flyK F l 0 = F := by simp [flyK]
theorem flyK_end {F l : List NoteS} {k : Nat} (h : k = l.length) : flyK F l k = F ++ l.take (200 - F.length) := by
  subst h
  unfold flyK
  rw [List.take_length]
set_option maxHeartbeats 4000000 in
set_option maxRecDepth 10000 in
theorem tickLoop {S : Nat → Prop} {w5 : World} {Y Z : SideA} {N' : NodeS} {B' : BytS} {t : SideS} {a x ea : Option Addr} {c y ec ll : Nat} {l : List NoteS} {ev : List (Int × Int)} {σ : Slots} {Q : Exit → Slots → World → Prop}
    (hs : Sub [(90, .int .i64 ((0 : Nat) : Int)), (89, .int .i64 (ll : Nat)), (88, .slice a ll c), (0, .pointer (some ⟨X.w, 0, none⟩))] σ)
    (hS : St w S w5 (tickH (X.with X.fa X.fc X.vs ea ec) (W.with W.fly ev) Y Z N' B' t a c x y l)) (hflen : W.fly.length ≤ 200) (hshort : l.length ≤ 2) (hll : (l.map (noteV x y)).length = ll) (hnl : ll = l.length)
    (hcell : ∀ n ∈ l, (n.claim = true ∧ n.cells = []) ∨ (n.claim = false ∧ n.cells = cellsOfN l)) (hfew : ∀ x ∈ l, x.cells.length ≤ 8)
    (hQ : ∀ σ w6, (∃ fa fc vs, St w S w6 (tickH (X.with fa fc vs ea ec) (W.with (flyK W.fly l ll) ev) Y Z N' B' t a c x y l)) → Q (.exit 0) σ w6) :
    LoopC Tryz.prog tab 112 (loopAt Tryz.f17 0) Q σ w5 := by
  refine loopR tabOk (fun σ w' q => ∃ (k : Nat) (fa : Option Addr) (fc : Nat) (vs : List NoteV), σ = [(90, .int .i64 k), (89, .int .i64 (ll : Nat)), (88, .slice a ll c), (0, .pointer (some ⟨X.w, 0, none⟩))] ∧ q = ll - k ∧ k ≤ ll ∧ St w S w' (tickH (X.with fa fc vs ea ec) (W.with (flyK W.fly l k) ev) Y Z N' B' t a c x y l))
    (σ' := [(90, .int .i64 ((0 : Nat) : Int)), (89, .int .i64 (ll : Nat)), (88, .slice a ll c), (0, .pointer (some ⟨X.w, 0, none⟩))]) (n := ll) hs ⟨0, X.fa, X.fc, X.vs, rfl, rfl, Nat.zero_le _, by rw [flyK_zero]; exact hS⟩ ?_
  clear hS
  rintro _ w5 q' ⟨k, fa, fc, vs, rfl, rfl, hk, hS⟩
  (conv => whnf)
  refine brD (fun h3 => ?_) (fun h3 => ?_)
  · have hk3 : k < l.length := by omega
    obtain ⟨z, hz⟩ : ∃ z, l[k]? = some z := ⟨_, List.getElem?_eq_getElem hk3⟩
    have hzm := List.mem_of_getElem? hz
    have hxk : (l.map (noteV x y))[k]? = some (noteV x y z) := by rw [List.getElem?_map, hz]; rfl
    have hz8 := hfew z hzm
    obtain ⟨g, o, hga⟩ : ∃ g o, a = some ⟨g, o, none⟩ := by
      obtain ⟨b0, o0, h1, _⟩ := (ownL_slc (G := fun _ => True) codNote (hS.get 15 rfl) (fun _ _ => trivial)).cells k _ hxk
      exact ⟨b0, o0, h1⟩
    subst hga
    have hvl : vs.length = (flyK W.fly l k).length := (hS.get 5 rfl : (cellsE vs (flyK W.fly l k)).holds _).1
    have hfl := flyK_le (l := l) (k := k) hflen
    (conv => whnf)
    refine IdxC.mk (by omega) (by omega) ?_
    (conv => whnf)
    refine hS.ldRow codNote 15 (by rfl) hxk rfl ?_
    (conv => whnf)
    refine hS.new (fun b6 w2 hb6 hS => ?_)
    (conv => whnf)
    refine hS.st 17 rfl (Nat.le_of_ble_eq_true rfl) rfl (fun w3 hS => ?_)
    (conv => whnf)
    refine hS.ld 0 rfl rfl ?_
    (conv => whnf)
    refine brD (fun h4 => ?_) (fun h4 => ?_)
    · have hmore := flyK_more hz (Int.ofNat_lt.1 h4)
      (conv => whnf)
      refine drawT tabOk mixed [4, 5] (fun _ => True) (.take 0 (.take 1 (.take 2 (.take 3 (.alt 4 (.alt 5 (.alt 6 (.alt 7 (.alt 8 (.take 9 (.take 10 (.alt 11 .fin .fin))) .fin) .fin) .fin) .fin) (.alt 5 (.alt 4 (.alt 6 (.alt 7 (.alt 8 (.take 9 (.take 10 (.alt 11 .fin .fin))) .fin) .fin) .fin) (.alt 6 (.alt 4 (.alt 7 (.alt 8 (.take 9 (.take 10 (.alt 11 .fin .fin))) .fin) .fin) (.alt 7 (.alt 4 (.alt 8 (.take 9 (.take 10 (.alt 11 .fin .fin))) .fin) .fin) .fin)) .fin)) .fin)))))) (by kernel_rfl) ?_
      rintro w6 rfl
      replace hS := hS.drew
      have hK := hS.ref (fun _ => True)
      repeat' ((conv => whnf); first | refine RetC.mk ?_ | refine NzC.mk (by decide) ?_ | refine RngC.mk (by omega) (by omega) ?_ | refine IdxC.mk (by omega) (by omega) ?_ | refine hS.ld 0 rfl rfl (KeepC.mk hK ?_) | refine hS.laX 17 rfl rfl (KeepC.mk hK ?_) | (refine (wown_ok (noteV_is hcell (ownL_slc codCell (hS.get 16 rfl) (fun _ _ => trivial)) hzm).2 (by show z.cells.length ≤ 1000; omega)).mono ?_; rintro v w2 ⟨a', c', rfl, hx, ho, hf⟩; replace hS := hS.made hx ownL_local ho (fun g hg => hf g (by simpa [ownL, own] using hg)); replace hK := hK.trans hx.of_no; clear hx ho hf; refine KeepC.mk hK ?_) | (refine hS.litX Tryz.underlying81 (sz := 5) (by kernel_rfl) (z := .agg (encNV noNV).toArray) (by kernel_rfl) rfl rfl (cs := encNV ((noteV x y z).with a' c')) (by rfl) (fun b9 w3 hb9 hx hS => ?_); replace hK := hK.trans hx.of_no; clear hx; refine KeepC.mk hK ?_) | (refine hS.appX codNote 4 (ys := [(noteV x y z).with a' c']) (G := fun _ => True) Tryz.underlying81 (bytes := 56) (by kernel_rfl) (z := .agg (encNV noNV).toArray) (by kernel_rfl) rfl rfl (Slc.of_blk codNote (hS.blk 19 rfl) rfl (by simp) (fun _ _ => trivial) rfl) (by show vs.length + 1 ≤ _; rw [hvl]; unfold maxLen; omega) (by show (vs.length + 1) * 56 ≤ _; rw [hvl]; omega) (fun fa2 fc2 w9 hx hS => ?_); replace hK := hK.trans (hx.mono fun _ _ => trivial); clear hx; refine KeepC.mk hK ?_) | (refine hS.stK hK 0 rfl (by exact Nat.le_of_ble_eq_true rfl) rfl trivial (fun w' hK hS => KeepC.mk hK ?_)) | refine And.intro ?_ ?_ | refine brD (fun _ => ?_) (fun _ => ?_) | refine brND (fun _ => ?_) (fun _ => ?_) | refine brN (fun _ => ?_) (fun _ => ?_) | refine brI (fun _ => ?_) (fun _ => ?_))
      all_goals
        have hcs : Slc _ 10 encCell (fun _ => True) a' z.cells.length z.cells := ownL_slc codCell (hS.get 18 rfl) (fun _ _ => trivial)
        have hj := ((hS.sel [5, 18, 0, 1, 2, 3, 4, 6, 7, 8, 9, 10, 11, 12, 13, 14, 15, 16] (by decide)).join (g := cellsE (vs ++ [(noteV x y z).with a' c']) (flyK W.fly l k ++ [z])) cellsE_local (cellsE_app (hS.get 5 rfl) (cellsE_one ⟨rfl, rfl, rfl, rfl⟩ hcs)) (fun b hb => by
          obtain ⟨u, hu, hb⟩ := cellsE_foot.1 hb
          rcases List.mem_append.1 hu with hu | hu
          · exact .inl (cellsE_foot.2 ⟨u, hu, hb⟩)
          · obtain rfl := List.mem_singleton.1 hu
            exact .inr (foot_own (footN_own hb)))).sel [1, 2, 3, 4, 5, 0, 6, 7, 8, 9, 10, 11, 12, 13, 14, 15, 16] (by decide)
        refine LoopE.mk ⟨_, [(90, .int .i64 ((k + 1 : Nat) : Int)), (89, _), (88, _), (0, _)], ?_, ⟨rfl, rfl, rfl, rfl, trivial⟩, ⟨k + 1, fa2, fc2, vs ++ [(noteV x y z).with a' c'], rfl, rfl, by omega, ?_⟩⟩
        · omega
        · rw [hmore]
          have hl1 : (X.with fa fc vs ea ec).vs.length + 1 = (flyK W.fly l k ++ [z]).length := by rw [List.length_append, ← hvl]; rfl
          rw [hl1] at hj
          exact hj
    · have hmore := flyK_full (l := l) (k := k) hflen (fun h => h4 (Int.ofNat_lt.2 h))
      (conv => whnf)
      refine RngC.mk (by omega) (by omega) ?_
      (conv => whnf)
      refine LoopE.mk ⟨_, [(90, .int .i64 ((k + 1 : Nat) : Int)), (89, _), (88, _), (0, _)], ?_, ⟨rfl, rfl, rfl, rfl, trivial⟩, ⟨k + 1, fa, fc, vs, rfl, rfl, by omega, ?_⟩⟩
      · omega
      · rw [hmore]
        exact hS.keep 17
  · obtain rfl : k = ll := by omega
    (conv => whnf)
    exact hQ _ _ ⟨fa, fc, vs, hS⟩
set_option maxHeartbeats 4000000 in
set_option maxRecDepth 10000 in
theorem wtick_ok (n : Int) (h : Stands E q m w X W) (hm : m + 34 ≤ 40000000) : CallC Tryz.prog 17 #[.pointer (some ⟨X.w, 0, none⟩), .int .i64 n] w fun v w' => v = errV E (W.tick n).1 ∧ ∃ X', X'.w = X.w ∧ Turns w w' (worldH X W) (worldH X' (W.tick n).2) := by
  refine fn_intro tabOk Tryz.func17 (by kernel_rfl) rfl Tryz.ntmps17 (Nat.le_of_ble_eq_true rfl) ?_
  (conv => whnf)
  refine (wup_ok n h).mono ?_
  rintro v w1 ⟨rfl, hx⟩
  by_cases hn : n = 0 ∨ n = 1
  case neg =>
    rw [show W.tick n = (2, W) from if_pos (by omega), show W.upErr n = 2 from if_pos (by omega)]
    repeat' ((conv => whnf); first | refine RetC.mk ?_ | refine NzC.mk (by decide) ?_ | refine RngC.mk (by omega) (by omega) ?_ | refine IdxC.mk (by omega) (by omega) ?_ | refine brD (fun _ => ?_) (fun _ => ?_) | refine brND (fun _ => ?_) (fun _ => ?_) | refine brN (fun _ => ?_) (fun _ => ?_) | refine brI (fun _ => ?_) (fun _ => ?_))
    exact ⟨rfl, X, rfl, Turns.of_no h.has hx⟩
  cases hN : (W.side n).node with
  | none =>
    rw [show W.tick n = (7, W) by unfold WorldS.tick; rw [if_neg (by omega), hN], upErr_none hn hN]
    repeat' ((conv => whnf); first | refine RetC.mk ?_ | refine NzC.mk (by decide) ?_ | refine RngC.mk (by omega) (by omega) ?_ | refine IdxC.mk (by omega) (by omega) ?_ | refine brD (fun _ => ?_) (fun _ => ?_) | refine brND (fun _ => ?_) (fun _ => ?_) | refine brN (fun _ => ?_) (fun _ => ?_) | refine brI (fun _ => ?_) (fun _ => ?_))
    exact ⟨rfl, X, rfl, Turns.of_no h.has hx⟩
  | some N =>
    rw [show W.tick n = W.ticked n N (N.tick (W.side n).byt) by unfold WorldS.tick; rw [if_neg (by omega), hN], upErr_some hn hN, if_pos rfl]
    obtain ⟨hH, hQ⟩ := h.half hn
    have hnk := ((h.ok.side hn).node N hN).1
    have hBk := (h.ok.side hn).bok
    have hflen := h.ok.fly
    have hevl := h.ok.events
    have hbok := NodeS.tick_bok (N := N) hBk
    have hshort := tick_short N (W.side n).byt
    have hcell := tick_cells N (W.side n).byt
    have hfew := tick_few hnk (W.side n).byt
    have hS := hH.start.no hx
    have hE := h.errs.ext hS.ext hQ
    have hT : ∀ {w'} {s : SideS}, Turns w w' (halfH X W n) (fixH X W (X.side n) (X.side (1 - n)) s (W.side (1 - n)) ++ sideH (X.side n) s) → ∃ X', X'.w = X.w ∧ Turns w w' (worldH X W) (worldH X' (W.setSide n s)) := fun {w'} {s} k => ⟨X, rfl, by
      have := Turns.side h.has hn (Y := X.side n) rfl k
      rwa [setSide_id hn] at this⟩
    have hT2 : ∀ {w'} {s : SideS} {f : List NoteS} {e : List (Int × Int)} {fa : Option Addr} {fc : Nat} {vs : List NoteV} {ea : Option Addr} {ec : Nat}, Turns w w' (halfH X W n) (fixH (X.with fa fc vs ea ec) (W.with f e) (X.side n) (X.side (1 - n)) s (W.side (1 - n)) ++ sideH (X.side n) s) → ∃ X', X'.w = X.w ∧ Turns w w' (worldH X W) (worldH X' ((W.setSide n s).with f e)) := fun {w'} {s} {f} {e} {fa} {fc} {vs} {ea} {ec} k => ⟨X.with fa fc vs ea ec, rfl, by
      rw [← half_with hn] at k
      exact Turns.world h.has hn k rfl (with_side hn s f e)⟩
    have hU : ∀ {w'} {s : SideS}, St w (inF (halfH X W n)) w' (fixH X W (X.side n) (X.side (1 - n)) s (W.side (1 - n)) ++ sideH (X.side n) s) → ∃ X', X'.w = X.w ∧ Turns w w' (worldH X W) (worldH X' (W.setSide n s)) := fun k => hT (St.turns k)
    have hU2 : ∀ {w'} {s : SideS} {f : List NoteS} {e : List (Int × Int)} {fa : Option Addr} {fc : Nat} {vs : List NoteV} {ea : Option Addr} {ec : Nat}, St w (inF (halfH X W n)) w' (fixH (X.with fa fc vs ea ec) (W.with f e) (X.side n) (X.side (1 - n)) s (W.side (1 - n)) ++ sideH (X.side n) s) → ∃ X', X'.w = X.w ∧ Turns w w' (worldH X W) (worldH X' ((W.setSide n s).with f e)) := fun k => hT2 (St.turns k)
    generalize hSS : inF (halfH X W n) = S at hS hU hU2
    rw [half_up hN] at hS hQ
    clear hH hx hT hT2 hSS
    generalize (W.side n).byt = B at *
    (conv => whnf)
    refine hS.ld 1 rfl (v := .pointer (some ⟨(X.side n).A.n, 0, none⟩)) rfl ?_
    (conv => whnf)
    refine hS.ld 7 rfl rfl ?_
    (conv => whnf)
    refine (role_active (hS.blk 8 rfl)).mono ?_
    rintro v w2 ⟨rfl, rfl⟩
    (conv => whnf)
    refine hS.ld 1 rfl (v := .pointer (some ⟨(X.side n).A.n, 0, none⟩)) rfl ?_
    (conv => whnf)
    have hw3 : Has _ (nodeB (X.side n).A N B) := Has.right (A := [_, _, _, _, _, _, _]) hS.has
    refine (ntick_ok hw3 hnk hBk (by omega) (hE.sub rfl) hQ.app.2).mono ?_
    rintro v w3 ⟨a, c, x, y, rfl, hk⟩
    replace hS := St.callAt (A := fixH X W (X.side n) (X.side (1 - n)) ⟨some N, B⟩ (W.side (1 - n))) (B := []) hS hk
    clear hk hw3
    generalize N.tick B = T at *
    obtain ⟨e, l, N', B'⟩ := T
    dsimp only at *
    replace hS : St w S w3 (tickH X W (X.side n) (X.side (1 - n)) N' B' (W.side (1 - n)) a c x y l) := hS
    have hnl : (l.map (noteV x y)).length = l.length := List.length_map _
    generalize hll : (l.map (noteV x y)).length = ll at hnl
    (conv => whnf)
    refine hS.ld 1 rfl rfl ?_
    (conv => whnf)
    refine (bpower_ok (hS.blk 14 rfl) hbok.len).mono ?_
    rintro v w4 ⟨rfl, hx⟩
    replace hS := hS.no hx
    clear hx
    have hpl : W.ticked n N (e, l, N', B') = if B'.off = true then (e, W.setSide n ⟨none, B'⟩) else if e ≠ 0 then (e, W.setSide n ⟨some N', B'⟩) else
      (0, (W.setSide n ⟨some N', B'⟩).with (W.fly ++ l.take (200 - W.fly.length)) (if N.role.active = false ∧ N'.role.active = true ∧ W.events.length < 1000 then W.events ++ [(n, N'.role.epoch)] else W.events)) := rfl
    rw [hpl]
    clear hpl
    cases hoff : B'.off
    case true =>
      rw [if_pos rfl]
      (conv => whnf)
      refine hS.st 1 rfl (by exact Nat.le_of_ble_eq_true rfl) rfl (fun w' hS => ?_)
      repeat' ((conv => whnf); first | refine RetC.mk ?_ | refine NzC.mk (by decide) ?_ | refine RngC.mk (by omega) (by omega) ?_ | refine IdxC.mk (by omega) (by omega) ?_ | refine brD (fun _ => ?_) (fun _ => ?_) | refine brND (fun _ => ?_) (fun _ => ?_) | refine brN (fun _ => ?_) (fun _ => ?_) | refine brI (fun _ => ?_) (fun _ => ?_))
      exact ⟨rfl, hU (s := ⟨none, B'⟩) (hS.sel [0, 1, 2, 3, 4, 5, 6, 14] (by decide))⟩
    rw [if_neg (by decide)]
    cases e with
    | succ j =>
      rw [if_pos (Nat.succ_ne_zero j)]
      repeat' ((conv => whnf); first | refine RetC.mk ?_ | refine NzC.mk (by decide) ?_ | refine RngC.mk (by omega) (by omega) ?_ | refine IdxC.mk (by omega) (by omega) ?_ | refine brD (fun _ => ?_) (fun _ => ?_) | refine brND (fun _ => ?_) (fun _ => ?_) | refine brN (fun _ => ?_) (fun _ => ?_) | refine brI (fun _ => ?_) (fun _ => ?_))
      exact ⟨rfl, hU (s := ⟨some N', B'⟩) (hS.keep 15)⟩
    | zero =>
      rw [if_neg (fun h => h rfl)]
      have hev0 : ∀ {b1 b2 : Bool}, N.role.active = b1 → N'.role.active = b2 → (b1 = true ∨ b2 = false ∨ ¬ W.events.length < 1000) → (if N.role.active = false ∧ N'.role.active = true ∧ W.events.length < 1000 then W.events ++ [(n, N'.role.epoch)] else W.events) = W.events := fun h1 h2 h3 => if_neg (by
        rw [h1, h2]
        rintro ⟨rfl, rfl, h4⟩
        rcases h3 with h3 | h3 | h3
        · cases h3
        · cases h3
        · exact h3 h4)
      have hev1 : N.role.active = false → N'.role.active = true → W.events.length < 1000 → (if N.role.active = false ∧ N'.role.active = true ∧ W.events.length < 1000 then W.events ++ [(n, N'.role.epoch)] else W.events) = W.events ++ [(n, N'.role.epoch)] := fun h1 h2 h3 => if_pos ⟨h1, h2, h3⟩
      replace hS : St w S w4 (tickH (X.with X.fa X.fc X.vs X.ea X.ec) (W.with W.fly W.events) (X.side n) (X.side (1 - n)) N' B' (W.side (1 - n)) a c x y l) := hS
      generalize hev : (if N.role.active = false ∧ N'.role.active = true ∧ W.events.length < 1000 then W.events ++ [(n, N'.role.epoch)] else W.events) = ev
      cases ha : N.role.active
      · (conv => whnf)
        refine hS.ld 1 rfl (v := .pointer (some ⟨(X.side n).A.n, 0, none⟩)) rfl ?_
        (conv => whnf)
        refine hS.ld 7 rfl rfl ?_
        (conv => whnf)
        refine (role_active (hS.blk 8 rfl)).mono ?_
        rintro v w5 ⟨rfl, rfl⟩
        cases ha2 : N'.role.active
        · rw [← hev.symm.trans (hev0 ha ha2 (.inr (.inl rfl)))] at hS
          generalize X.ea = ea at hS
          generalize X.ec = ec at hS
          clear hev hev0 hev1 ha ha2
          (conv => whnf)
          refine tickLoop (ea := ea) (ec := ec) (ev := ev) ⟨rfl, rfl, rfl, rfl, trivial⟩ hS hflen hshort hll hnl hcell hfew ?_
          rintro σ w6 ⟨fa, fc, vs, hS⟩
          rw [flyK_end hnl] at hS
          repeat' ((conv => whnf); first | refine RetC.mk ?_ | refine NzC.mk (by decide) ?_ | refine RngC.mk (by omega) (by omega) ?_ | refine IdxC.mk (by omega) (by omega) ?_ | refine brD (fun _ => ?_) (fun _ => ?_) | refine brND (fun _ => ?_) (fun _ => ?_) | refine brN (fun _ => ?_) (fun _ => ?_) | refine brI (fun _ => ?_) (fun _ => ?_))
          exact ⟨rfl, hU2 (s := ⟨some N', B'⟩) (hS.keep 15)⟩
        · (conv => whnf)
          refine hS.ld 0 rfl rfl ?_
          (conv => whnf)
          refine brD (fun h5 => ?_) (fun h5 => ?_)
          · have hv := hev.symm.trans (hev1 ha ha2 (by exact Int.ofNat_lt.1 h5))
            have hvl : ev.length = W.events.length + 1 := by rw [hv, List.length_append]; rfl
            (conv => whnf)
            refine drawT tabOk mixed [4] (evT X W) (.take 0 (.take 1 (.take 2 (.take 3 (.take 5 (.take 6 (.take 7 (.take 8 (.take 9 (.take 10 (.take 11 (.take 12 (.alt 4 (.alt 13 (.take 14 (.alt 15 (.alt 16 (.take 17 (.take 18 (.alt 19 .fin .fin))) .fin) .fin)) .fin) (.alt 13 (.take 14 (.alt 4 (.alt 15 (.alt 16 (.take 17 (.take 18 (.alt 19 .fin .fin))) .fin) .fin) (.alt 15 (.alt 4 (.alt 16 (.take 17 (.take 18 (.alt 19 .fin .fin))) .fin) .fin) .fin))) .fin)))))))))))))) (by kernel_rfl) ?_
            rintro w6 rfl
            replace hS := hS.drew
            have hK := hS.ref (evT X W)
            have hn1 := hS.ne 1 0 rfl rfl (by decide)
            have hn7 := hS.ne 7 0 rfl rfl (by decide)
            have hm1 : (X.side n).s ∉ (ownL 64 2 encEv (.slice X.ea W.events.length X.ec) W.events).foot := hS.apartAt 1 6 rfl rfl (by decide) _ (List.mem_singleton.2 rfl)
            have hm7 : (X.side n).A.n ∉ (ownL 64 2 encEv (.slice X.ea W.events.length X.ec) W.events).foot := hS.apartAt 7 6 rfl rfl (by decide) _ (List.mem_singleton.2 rfl)
            repeat' ((conv => whnf); first | refine RetC.mk ?_ | refine NzC.mk (by decide) ?_ | refine RngC.mk (by omega) (by omega) ?_ | refine IdxC.mk (by omega) (by omega) ?_ | refine hS.ld 0 rfl rfl (KeepC.mk hK ?_) | refine hS.ldF 1 rfl (v := .pointer (some ⟨(X.side n).A.n, 0, none⟩)) rfl (fun h => h.elim hn1 hm1) ?_ | refine hS.ldF 7 rfl rfl (fun h => h.elim hn7 hm7) ?_ | (refine (role_epoch (hS.blk 8 rfl)).mono ?_; rintro v w7 ⟨rfl, rfl⟩; refine KeepC.mk hK ?_) | (refine hS.litX Tryz.underlying60 (sz := 2) (by kernel_rfl) (z := .agg (encEv (0, 0)).toArray) (by kernel_rfl) rfl rfl (cs := encEv (n, N'.role.epoch)) (by rfl) (fun b9 w8 hb9 hx hS => ?_); replace hK := hK.trans hx.of_no; clear hx; refine KeepC.mk hK ?_) | (refine hS.appX codEv 6 (ys := [(n, N'.role.epoch)]) (G := fun _ => True) Tryz.underlying60 (bytes := 16) (by kernel_rfl) (z := .agg (encEv (0, 0)).toArray) (by kernel_rfl) rfl rfl (Slc.of_blk codEv (hS.blk 17 rfl) rfl (by simp) (fun _ _ => trivial) rfl) (by show W.events.length + 1 ≤ _; unfold maxLen; omega) (by show (W.events.length + 1) * 16 ≤ _; omega) (fun ea ec w9 hx hS => ?_); replace hK := hK.trans (hx.mono fun d hd => .inr (foot_own hd)); clear hx; refine KeepC.mk hK ?_) | (refine hS.stK hK 0 rfl (by exact Nat.le_of_ble_eq_true rfl) rfl (.inl rfl) (fun w' hK hS => KeepC.mk hK ?_)) | refine And.intro ?_ ?_ | refine brD (fun _ => ?_) (fun _ => ?_) | refine brND (fun _ => ?_) (fun _ => ?_) | refine brN (fun _ => ?_) (fun _ => ?_) | refine brI (fun _ => ?_) (fun _ => ?_))
            all_goals
              replace hS := hS.keep 17
              replace hS := hS.as (H' := tickH (X.with X.fa X.fc X.vs ea ec) (W.with W.fly (W.events ++ [(n, N'.role.epoch)])) (X.side n) (X.side (1 - n)) N' B' (W.side (1 - n)) a c x y l) (by
                rw [show (W.with W.fly W.events).events.length + 1 = (W.events ++ [(n, N'.role.epoch)]).length by rw [List.length_append]; rfl]
                rfl)
              rw [← hv] at hS
              clear hev hev0 hev1 ha ha2 hK
              refine tickLoop (ea := ea) (ec := ec) (ev := ev) ⟨rfl, rfl, rfl, rfl, trivial⟩ hS hflen hshort hll hnl hcell hfew ?_
              rintro σ w6 ⟨fa, fc, vs, hS⟩
              rw [flyK_end hnl] at hS
              repeat' ((conv => whnf); first | refine RetC.mk ?_ | refine NzC.mk (by decide) ?_ | refine RngC.mk (by omega) (by omega) ?_ | refine IdxC.mk (by omega) (by omega) ?_ | refine brD (fun _ => ?_) (fun _ => ?_) | refine brND (fun _ => ?_) (fun _ => ?_) | refine brN (fun _ => ?_) (fun _ => ?_) | refine brI (fun _ => ?_) (fun _ => ?_))
              exact ⟨rfl, hU2 (s := ⟨some N', B'⟩) (hS.keep 15)⟩
          · rw [← hev.symm.trans (hev0 ha ha2 (.inr (.inr fun h => h5 (by exact Int.ofNat_lt.2 h))))] at hS
            generalize X.ea = ea at hS
            generalize X.ec = ec at hS
            clear hev hev0 hev1 ha ha2
            (conv => whnf)
            refine tickLoop (ea := ea) (ec := ec) (ev := ev) ⟨rfl, rfl, rfl, rfl, trivial⟩ hS hflen hshort hll hnl hcell hfew ?_
            rintro σ w6 ⟨fa, fc, vs, hS⟩
            rw [flyK_end hnl] at hS
            repeat' ((conv => whnf); first | refine RetC.mk ?_ | refine NzC.mk (by decide) ?_ | refine RngC.mk (by omega) (by omega) ?_ | refine IdxC.mk (by omega) (by omega) ?_ | refine brD (fun _ => ?_) (fun _ => ?_) | refine brND (fun _ => ?_) (fun _ => ?_) | refine brN (fun _ => ?_) (fun _ => ?_) | refine brI (fun _ => ?_) (fun _ => ?_))
            exact ⟨rfl, hU2 (s := ⟨some N', B'⟩) (hS.keep 15)⟩
      · rw [← hev.symm.trans (hev0 ha rfl (.inl rfl))] at hS
        generalize X.ea = ea at hS
        generalize X.ec = ec at hS
        clear hev hev0 hev1 ha
        (conv => whnf)
        refine tickLoop (ea := ea) (ec := ec) (ev := ev) ⟨rfl, rfl, rfl, rfl, trivial⟩ hS hflen hshort hll hnl hcell hfew ?_
        rintro σ w6 ⟨fa, fc, vs, hS⟩
        rw [flyK_end hnl] at hS
        repeat' ((conv => whnf); first | refine RetC.mk ?_ | refine NzC.mk (by decide) ?_ | refine RngC.mk (by omega) (by omega) ?_ | refine IdxC.mk (by omega) (by omega) ?_ | refine brD (fun _ => ?_) (fun _ => ?_) | refine brND (fun _ => ?_) (fun _ => ?_) | refine brN (fun _ => ?_) (fun _ => ?_) | refine brI (fun _ => ?_) (fun _ => ?_))
        exact ⟨rfl, hU2 (s := ⟨some N', B'⟩) (hS.keep 15)⟩
end
end Go.Proofs.YtoaghhcjlfiflaaGreatDoor

namespace Go.Proofs.YtoaghhcjlfiflaaGreatDoor
open Go Ev
theorem perr_code (p : PktS) : p.err < 12 := p.err_code
theorem add_code (T : MirS) (a b c d e f g : Int) : (T.add a b c d e f g).1.2 < 12 := by
  unfold MirS.add MirS.lay
  repeat' split
  all_goals (dsimp only; omega)
theorem begin_code (N : NodeS) (p : PktS) : (N.begin p).1.2 < 12 := by
  unfold NodeS.begin
  split
  · show 8 < 12
    decide
  split
  · exact beginS_code _ _
  · exact add_code _ _ _ _ _ _ _ _
theorem inside_code (N : NodeS) (p : PktS) : (N.inside p).1 < 12 := by
  unfold NodeS.inside
  split
  · exact perr_code p
  split
  · show 9 < 12
    decide
  split
  · show 0 < 12
    decide
  split
  · exact begin_code N p
  · show 0 < 12
    decide
theorem outside_code (N : NodeS) (p : PktS) : (N.outside p).1 < 12 := by
  unfold NodeS.outside
  split
  · exact perr_code p
  repeat' split
  all_goals (dsimp only; omega)
theorem nput_code (C : CelS) (B : BytS) (e l : Int) : (C.put B e l).1 < 12 := by
  unfold CelS.put
  repeat' split
  all_goals dsimp only
  all_goals omega
theorem claim_code (N : NodeS) (B : BytS) : (N.claim B).1.2 < 12 := by
  unfold NodeS.claim
  split
  · show 0 < 12
    decide
  split
  · exact nput_code _ _ _ _
  · show 0 < 12
    decide
theorem tick_code (N : NodeS) (B : BytS) : (N.tick B).1 < 12 := by
  unfold NodeS.tick
  split
  · show 2 < 12
    decide
  split
  · split
    · exact claim_code _ _
    · show 0 < 12
      decide
  · show 0 < 12
    decide
end Go.Proofs.YtoaghhcjlfiflaaGreatDoor

namespace Go.Proofs.YtoaghhcjlfiflaaGreatDoor
open Go Ev
def flagsOf (l : List Int) (k : Int) : Int := (l[k.toNat]?).getD 0
def insideOf (q : Int) : PktS := ⟨1 + q.tmod 2, 10 + (q.tdiv 2).tmod 3, 100, 77, 80 + (q.tdiv 6).tmod 2, if 1 + q.tmod 2 = 2 then flagsOf [1, 2, 6, 8] ((q.tdiv 12).tmod 4) else 0⟩
def outsideOf (q : Int) : PktS := ⟨1 + q.tmod 2, 77, 80 + (q.tdiv 2).tmod 2, 1, 2000 + (q.tdiv 4).tmod 48, if 1 + q.tmod 2 = 2 then flagsOf [3, 2, 6, 8] ((q.tdiv 4).tmod 4) else 0⟩
def WorldS.ticks (W : WorldS) (n : Int) : Nat → Nat × WorldS
  | 0 => (0, W)
  | k + 1 => if (W.tick n).1 ≠ 0 then W.tick n else (W.tick n).2.ticks n k
def WorldS.one (W : WorldS) (v : Int) : Nat × WorldS :=
  if v.tmod 16 < 5 ∧ W.fly.length = 0 then (4, W) else
  if v.tmod 16 < 3 then W.deliver ((v.tdiv 16).tmod W.fly.length) else
  if v.tmod 16 = 3 then W.drop ((v.tdiv 16).tmod W.fly.length) else
  if v.tmod 16 = 4 then W.twice ((v.tdiv 16).tmod W.fly.length) else
  if v.tmod 16 = 5 ∨ v.tmod 16 = 6 then W.tick ((v.tdiv 16).tmod 2) else
  if v.tmod 16 = 7 then W.ticks ((v.tdiv 16).tmod 2) 10 else
  if v.tmod 16 = 8 ∨ v.tmod 16 = 9 then ((W.inside (insideOf (v.tdiv 16))).1, (W.inside (insideOf (v.tdiv 16))).2.2) else
  if v.tmod 16 = 10 ∨ v.tmod 16 = 11 then ((W.outside (outsideOf (v.tdiv 16))).1, (W.outside (outsideOf (v.tdiv 16))).2.2) else
  if v.tmod 16 = 12 then W.down ((v.tdiv 16).tmod 2) else
  if v.tmod 16 = 13 then W.up ((v.tdiv 16).tmod 2) else
  if v.tmod 16 = 14 then W.cut ((v.tdiv 16).tmod 2) (((v.tdiv 16).tdiv 2).tmod 30) else (0, W)
def WorldS.run (W : WorldS) : List Int → List Int × WorldS
  | [] => ([], W)
  | v :: l => if v < 0 then (-1 :: (W.run l).1, (W.run l).2) else (((W.one v).1 : Int) :: ((W.one v).2.run l).1, ((W.one v).2.run l).2)
theorem lt12 {n : Nat} (h : Nat.blt n 12 = true) : n < 12 := by simpa using h
theorem newN_code (n : Int) (B : BytS) (l : List RuleS) : (newN n B l).1 < 12 := nput_code _ _ _ _
theorem upErr_code (W : WorldS) (n : Int) : W.upErr n < 12 := by
  unfold WorldS.upErr
  repeat' split
  all_goals exact lt12 rfl
theorem handErr_code (W : WorldS) : W.handErr < 12 := by
  unfold WorldS.handErr
  split
  · exact lt12 rfl
  · exact upErr_code _ _
theorem wtick_code (W : WorldS) (n : Int) : (W.tick n).1 < 12 := by
  unfold WorldS.tick
  split
  · exact lt12 rfl
  split
  · exact lt12 rfl
  · unfold WorldS.ticked
    split
    · exact tick_code _ _
    split
    · exact tick_code _ _
    · exact lt12 rfl
theorem winside_code (W : WorldS) (p : PktS) : (W.inside p).1 < 12 := by
  unfold WorldS.inside
  split
  · exact handErr_code W
  split
  · exact lt12 rfl
  · exact inside_code _ _
theorem woutside_code (W : WorldS) (p : PktS) : (W.outside p).1 < 12 := by
  unfold WorldS.outside
  split
  · exact handErr_code W
  split
  · exact lt12 rfl
  · exact outside_code _ _
theorem wat_code (W : WorldS) (k : Int) : W.at_ k < 12 := by
  unfold WorldS.at_
  split <;> exact lt12 rfl
theorem wdeliver_code (W : WorldS) (k : Int) : (W.deliver k).1 < 12 := by
  unfold WorldS.deliver
  split
  · exact wat_code W k
  split <;> exact lt12 rfl
theorem wdrop_code (W : WorldS) (k : Int) : (W.drop k).1 < 12 := by
  unfold WorldS.drop
  split
  · exact wat_code W k
  · exact lt12 rfl
theorem wtwice_code (W : WorldS) (k : Int) : (W.twice k).1 < 12 := by
  unfold WorldS.twice
  split
  · exact wat_code W k
  split
  · exact lt12 rfl
  split <;> exact lt12 rfl
theorem wdown_code (W : WorldS) (n : Int) : (W.down n).1 < 12 := by
  unfold WorldS.down
  split
  · exact upErr_code W n
  · exact lt12 rfl
theorem wup_code (W : WorldS) (n : Int) : (W.up n).1 < 12 := by
  unfold WorldS.up
  split
  · exact lt12 rfl
  split
  · exact lt12 rfl
  split
  · exact newN_code n (onB (W.side n).byt) W.rules
  · exact lt12 rfl
theorem wcut_code (W : WorldS) (n k : Int) : (W.cut n k).1 < 12 := by
  unfold WorldS.cut
  split
  · exact upErr_code W n
  · show cutE _ _ < 12
    unfold cutE
    repeat' split
    all_goals exact lt12 rfl
end Go.Proofs.YtoaghhcjlfiflaaGreatDoor

namespace Go.Proofs.YtoaghhcjlfiflaaGreatDoor
open Go Ev
section
variable {w w' : World} {X : WorldA} {W : WorldS} {E : Nat → Addr} {q m : Nat}
theorem src_turns {H H' : List Ent} {b : Nat} (h : ¬ inF H b) (hb : b < w.heap.size) (k : Turns w w' H H') : ¬ inF H' b := by
  rintro ⟨e, he, hbe⟩
  rcases k.foot e he b hbe with h1 | h1
  · exact h h1
  · omega
theorem half_inF {n : Int} (hn : n = 0 ∨ n = 1) {b : Nat} (h : inF (halfH X W n) b) : inF (worldH X W) b := by
  refine inF_perm (view_perm X W hn).symm ?_
  rw [view_half]
  exact inF_app.2 (.inl h)
def NodeA.rul (A : NodeA) (ra : Option Addr) (rc : Nat) : NodeA := { A with ra := ra, rc := rc }
theorem wrule1_ok {G : RuleS → Prop} {a : Option Addr} {c l : Nat} {xs : List RuleS} {n : Int} {N : NodeS} (hn : n = 0 ∨ n = 1) (hN : (W.side n).node = some N) (hH : Has w (worldH X W)) (hx : Slc w 5 encRule G a l xs) (hl : l ≤ 1000) (hsrc : 0 < l → ∀ b0 o0, a = some ⟨b0, o0, none⟩ → ¬ inF (worldH X W) b0) (hE : Errs w E q insErrs) (h0 : (faultL xs).1 = 0) :
    CallC Tryz.prog 98 #[.pointer (some ⟨(X.side n).A.n, 0, none⟩), .slice a l c] w fun _ w' => ∃ ra rc, Turns w w' (worldH X W) (worldH (X.setSide n ⟨(X.side n).s, (X.side n).A.rul ra rc⟩) (W.setSide n ⟨some { N with rules := xs }, (W.side n).byt⟩)) := by
  have hV := hH.perm (view_perm X W hn)
  rw [view_half] at hV
  have hHf := hV.left
  have hS := hHf.start
  have hT : ∀ {w'} {ra rc}, Turns w w' (halfH X W n) (fixH X W ⟨(X.side n).s, (X.side n).A.rul ra rc⟩ (X.side (1 - n)) ⟨some { N with rules := xs }, (W.side n).byt⟩ (W.side (1 - n)) ++ nodeB ((X.side n).A.rul ra rc) { N with rules := xs } (W.side n).byt) → Turns w w' (worldH X W) (worldH (X.setSide n ⟨(X.side n).s, (X.side n).A.rul ra rc⟩) (W.setSide n ⟨some { N with rules := xs }, (W.side n).byt⟩)) := fun {w'} {ra} {rc} k => Turns.side hH hn (Y := ⟨(X.side n).s, (X.side n).A.rul ra rc⟩) (s := ⟨some { N with rules := xs }, (W.side n).byt⟩) rfl k
  have hsr : 0 < l → ∀ b0 o0, a = some ⟨b0, o0, none⟩ → ¬ inF (nodeH (X.side n).A N) b0 := fun h b0 o0 ha hb => hsrc h b0 o0 ha (half_inF hn (by
    rw [half_up hN]
    exact inF_app.2 (.inr (nodeB_H hb))))
  rw [half_up hN] at hS hT hHf
  refine (nrules_ok (A := (X.side n).A) (N := N) hx hl hHf.right.left (hE.sub rfl) hsr).mono ?_
  rintro v w' ⟨_, ra, rc, hk⟩
  rw [if_pos h0] at hk
  have hS2 := St.callAt (A := fixH X W (X.side n) (X.side (1 - n)) ⟨some N, (W.side n).byt⟩ (W.side (1 - n))) (B := [_]) hS hk
  exact ⟨ra, rc, hT (St.turns hS2)⟩
def WorldS.ruleK (W : WorldS) (l : List RuleS) : Nat → WorldS
  | 0 => { W with rules := l }
  | 1 => { W with rules := l, a := W.a.ruled l }
  | _ => W.rule l
theorem ruled_some {s : SideS} {N : NodeS} {l : List RuleS} (h : s.node = some N) : s.ruled l = ⟨some { N with rules := l }, s.byt⟩ := by
  unfold SideS.ruled
  rw [h]
  rfl
theorem ruled_none {s : SideS} {l : List RuleS} (h : s.node = none) : s.ruled l = s := by
  obtain ⟨x, y⟩ := s
  dsimp only at h
  subst h
  rfl
theorem wrules_ok {G : RuleS → Prop} {a : Option Addr} {c l : Nat} {xs : List RuleS} (hx : Slc w 5 encRule G a l xs) (hl : l ≤ 1000) (hsrc : 0 < l → ∀ b0 o0, a = some ⟨b0, o0, none⟩ → ¬ inF (worldH X W) b0) (h : Stands E q m w X W) :
    CallC Tryz.prog 51 #[.pointer (some ⟨X.w, 0, none⟩), .slice a l c] w fun v w' => FaultV E w w' v (faultL xs).1 (faultL xs).2 ∧ ∃ X', X'.w = X.w ∧ Turns w w' (worldH X W) (worldH X' (if (faultL xs).1 = 0 then W.rule xs else W)) := by
  have hlx := hx.len
  refine fn_intro tabOk Tryz.func51 (by kernel_rfl) rfl Tryz.ntmps51 (Nat.le_of_ble_eq_true rfl) ?_
  (conv => whnf)
  refine (rcheck_ok hx (h.errs.sub rfl)).mono ?_
  rintro v w1 ⟨hF, hx1⟩
  by_cases h0 : (faultL xs).1 = 0
  case neg =>
    rw [if_neg h0]
    obtain ⟨j, hj⟩ : ∃ j, (faultL xs).1 = j + 1 := ⟨(faultL xs).1 - 1, by omega⟩
    rw [hj] at hF ⊢
    rcases id hF with ⟨_, rfl⟩ | ⟨_, _, f, rfl, _⟩
    · repeat' ((conv => whnf); first | refine RetC.mk ?_ | refine NzC.mk (by decide) ?_ | refine RngC.mk (by omega) (by omega) ?_ | refine IdxC.mk (by omega) (by omega) ?_ | refine brD (fun _ => ?_) (fun _ => ?_) | refine brND (fun _ => ?_) (fun _ => ?_) | refine brN (fun _ => ?_) (fun _ => ?_) | refine brI (fun _ => ?_) (fun _ => ?_))
      exact ⟨hF, X, rfl, Turns.of_no h.has hx1⟩
    · repeat' ((conv => whnf); first | refine RetC.mk ?_ | refine NzC.mk (by decide) ?_ | refine RngC.mk (by omega) (by omega) ?_ | refine IdxC.mk (by omega) (by omega) ?_ | refine brD (fun _ => ?_) (fun _ => ?_) | refine brND (fun _ => ?_) (fun _ => ?_) | refine brN (fun _ => ?_) (fun _ => ?_) | refine brI (fun _ => ?_) (fun _ => ?_))
      exact ⟨hF, X, rfl, Turns.of_no h.has hx1⟩
  rw [if_pos h0]
  obtain rfl : v = .nilIface := by
    rw [h0] at hF
    rcases hF with ⟨_, h⟩ | ⟨_, h, _⟩
    · exact h
    · exact absurd h (by decide)
  have hat : (faultL xs).2 = -1 := by
    rcases hF with ⟨h, _⟩ | ⟨_, h, _⟩
    · exact h
    · omega
  clear hF
  have hS := h.fix.1.start.no hx1
  (conv => whnf)
  refine (rclone_ok (hx.no hx1) hl).mono ?_
  rintro v w2 ⟨a2, c2, rfl, hx2, ho, hf⟩
  replace hS := hS.made hx2 ownL_local ho (fun g hg => hf g (by simpa [ownL, own] using hg))
  clear hx1 hx2 ho hf
  (conv => whnf)
  refine hS.st 0 rfl (Nat.le_of_ble_eq_true rfl) rfl (fun w3 hS => ?_)
  (conv => whnf)
  refine hS.laX 0 rfl rfl ?_
  have hk3 : Turns w w3 (worldH X W) (worldH { X with ra := a2, rc := c2 } (W.ruleK xs 0)) := by
    refine Turns.fixed h.has ?_ rfl rfl rfl rfl
    have hS2 := hS.sel [0, 1, 2, 7, 4, 5, 6] (by decide)
    rw [← hlx] at hS2
    exact St.turns hS2
  clear hS
  (conv => whnf)
  refine loopR tabOk (fun σ w' q' => ∃ (k : Nat) (X' : WorldA), X'.w = X.w ∧ X'.a.s = X.a.s ∧ X'.b.s = X.b.s ∧ σ = [(22, .int .i64 k), (21, .agg #[.pointer (some ⟨X.a.s, 0, none⟩), .pointer (some ⟨X.b.s, 0, none⟩)]), (1, .slice a l c)] ∧ q' = 2 - k ∧ k ≤ 2 ∧ Turns w w' (worldH X W) (worldH X' (W.ruleK xs k)))
    (σ' := [(22, .int .i64 ((0 : Nat) : Int)), (21, .agg #[.pointer (some ⟨X.a.s, 0, none⟩), .pointer (some ⟨X.b.s, 0, none⟩)]), (1, .slice a l c)]) (n := 2) ⟨rfl, rfl, rfl, trivial⟩ ⟨0, { X with ra := a2, rc := c2 }, rfl, rfl, rfl, rfl, rfl, Nat.zero_le _, hk3⟩ ?_
  clear hk3
  rintro _ w4 q' ⟨k, X', hw, ha, hb, rfl, rfl, hk, hT⟩
  have hsr2 : 0 < l → ∀ b0 o0, a = some ⟨b0, o0, none⟩ → ¬ inF (worldH X' (W.ruleK xs k)) b0 := fun h1 b0 o0 h2 => by
    obtain ⟨b1, o1, x, _, _, h3, h4, _⟩ := hx.at h1
    rw [h2] at h3
    simp only [Option.some.injEq, Addr.mk.injEq] at h3
    obtain ⟨rfl, _⟩ := h3
    exact src_turns (hsrc h1 _ _ h2) h4 hT
  have hE := h.errs.turns h.high hT
  have hx4 : Slc w4 5 encRule G a l xs := hx.extN hT.ext hsrc
  (conv => whnf)
  refine brD (fun h3 => ?_) (fun h3 => ?_)
  · have hk2 : k = 0 ∨ k = 1 := by omega
    rcases hk2 with rfl | rfl
    · (conv => whnf)
      refine PureC.of (v := .pointer (some ⟨X.a.s, 0, none⟩)) (fun w => by kernel_rfl) ?_
      have hS := hT.has.start
      cases hN : W.a.node with
      | none =>
        (conv => whnf)
        refine hS.ld 1 (b := X.a.s) (t := 101) (cs := encSide X'.a W.a) (by rw [← ha]; rfl) (v := .pointer none) (by rw [encSide_none hN]; rfl) ?_
        (conv => whnf)
        refine RngC.mk (by omega) (by omega) ?_
        (conv => whnf)
        refine LoopE.mk ⟨_, [(22, .int .i64 ((1 : Nat) : Int)), (21, _), (1, _)], ?_, ⟨rfl, rfl, rfl, trivial⟩, ⟨1, X', hw, ha, hb, rfl, rfl, by omega, by rw [show W.ruleK xs 1 = W.ruleK xs 0 by show ({ W with rules := xs, a := W.a.ruled xs } : WorldS) = { W with rules := xs }; rw [ruled_none hN]]; exact hT⟩⟩
        omega
      | some N =>
        (conv => whnf)
        refine hS.ld 1 (b := X.a.s) (t := 101) (cs := encSide X'.a W.a) (by rw [← ha]; rfl) (v := .pointer (some ⟨X'.a.A.n, 0, none⟩)) (by rw [encSide_some hN]; rfl) ?_
        (conv => whnf)
        refine hS.ld 1 (b := X.a.s) (t := 101) (cs := encSide X'.a W.a) (by rw [← ha]; rfl) (v := .pointer (some ⟨X'.a.A.n, 0, none⟩)) (by rw [encSide_some hN]; rfl) ?_
        (conv => whnf)
        refine (wrule1_ok (n := 0) (X := X') (W := W.ruleK xs 0) (.inl rfl) hN hT.has hx4 hl hsr2 hE h0).mono ?_
        rintro v w5 ⟨ra, rc, hk5⟩
        have hT2 := hT.trans hk5
        (conv => whnf)
        refine RngC.mk (by omega) (by omega) ?_
        (conv => whnf)
        refine LoopE.mk ⟨_, [(22, .int .i64 ((1 : Nat) : Int)), (21, _), (1, _)], ?_, ⟨rfl, rfl, rfl, trivial⟩, ⟨1, X'.setSide 0 ⟨(X'.side 0).s, (X'.side 0).A.rul ra rc⟩, hw, ha, hb, rfl, rfl, by omega, by rw [show W.ruleK xs 1 = (W.ruleK xs 0).setSide 0 ⟨some { N with rules := xs }, ((W.ruleK xs 0).side 0).byt⟩ by show ({ W with rules := xs, a := W.a.ruled xs } : WorldS) = _; rw [ruled_some hN]; rfl]; exact hT2⟩⟩
        omega
    · (conv => whnf)
      refine PureC.of (v := .pointer (some ⟨X.b.s, 0, none⟩)) (fun w => by kernel_rfl) ?_
      have hS := hT.has.start
      cases hN : W.b.node with
      | none =>
        (conv => whnf)
        refine hS.ld 2 (b := X.b.s) (t := 101) (cs := encSide X'.b W.b) (by rw [← hb]; rfl) (v := .pointer none) (by rw [encSide_none hN]; rfl) ?_
        (conv => whnf)
        refine RngC.mk (by omega) (by omega) ?_
        (conv => whnf)
        refine LoopE.mk ⟨_, [(22, .int .i64 ((2 : Nat) : Int)), (21, _), (1, _)], ?_, ⟨rfl, rfl, rfl, trivial⟩, ⟨2, X', hw, ha, hb, rfl, rfl, by omega, by rw [show W.ruleK xs 2 = W.ruleK xs 1 by show ({ W with rules := xs, a := W.a.ruled xs, b := W.b.ruled xs } : WorldS) = { W with rules := xs, a := W.a.ruled xs }; rw [ruled_none hN]]; exact hT⟩⟩
        omega
      | some N =>
        (conv => whnf)
        refine hS.ld 2 (b := X.b.s) (t := 101) (cs := encSide X'.b W.b) (by rw [← hb]; rfl) (v := .pointer (some ⟨X'.b.A.n, 0, none⟩)) (by rw [encSide_some hN]; rfl) ?_
        (conv => whnf)
        refine hS.ld 2 (b := X.b.s) (t := 101) (cs := encSide X'.b W.b) (by rw [← hb]; rfl) (v := .pointer (some ⟨X'.b.A.n, 0, none⟩)) (by rw [encSide_some hN]; rfl) ?_
        (conv => whnf)
        refine (wrule1_ok (n := 1) (X := X') (W := W.ruleK xs 1) (.inr rfl) hN hT.has hx4 hl hsr2 hE h0).mono ?_
        rintro v w5 ⟨ra, rc, hk5⟩
        have hT2 := hT.trans hk5
        (conv => whnf)
        refine RngC.mk (by omega) (by omega) ?_
        (conv => whnf)
        refine LoopE.mk ⟨_, [(22, .int .i64 ((2 : Nat) : Int)), (21, _), (1, _)], ?_, ⟨rfl, rfl, rfl, trivial⟩, ⟨2, X'.setSide 1 ⟨(X'.side 1).s, (X'.side 1).A.rul ra rc⟩, hw, ha, hb, rfl, rfl, by omega, by rw [show W.ruleK xs 2 = (W.ruleK xs 1).setSide 1 ⟨some { N with rules := xs }, ((W.ruleK xs 1).side 1).byt⟩ by show ({ W with rules := xs, a := W.a.ruled xs, b := W.b.ruled xs } : WorldS) = _; rw [ruled_some hN]; rfl]; exact hT2⟩⟩
        omega
  · obtain rfl : k = 2 := by omega
    repeat' ((conv => whnf); first | refine RetC.mk ?_ | refine NzC.mk (by decide) ?_ | refine RngC.mk (by omega) (by omega) ?_ | refine IdxC.mk (by omega) (by omega) ?_ | refine brD (fun _ => ?_) (fun _ => ?_) | refine brND (fun _ => ?_) (fun _ => ?_) | refine brN (fun _ => ?_) (fun _ => ?_) | refine brI (fun _ => ?_) (fun _ => ?_))
    rw [h0, hat]
    exact ⟨.inl ⟨rfl, rfl⟩, X', hw, hT⟩
theorem wnew_bad {G : RuleS → Prop} {a : Option Addr} {n c : Nat} {xs : List RuleS} (hx : Slc w 5 encRule G a n xs) (hE : Errs w E q insErrs) (h0 : (faultL xs).1 ≠ 0) :
    CallC Tryz.prog 11 #[.slice a n c] w fun v w' => (∃ e, v = .tuple #[.pointer none, e] ∧ FaultV E w w' e (faultL xs).1 (faultL xs).2) ∧ Ext No w w' := by
  refine fn_intro tabOk Tryz.func11 (by kernel_rfl) rfl Tryz.ntmps11 (Nat.le_of_ble_eq_true rfl) ?_
  (conv => whnf)
  refine (rcheck_ok hx (hE.sub rfl)).mono ?_
  rintro v w1 ⟨hF, hx1⟩
  obtain ⟨j, hj⟩ : ∃ j, (faultL xs).1 = j + 1 := ⟨(faultL xs).1 - 1, by omega⟩
  rw [hj] at hF ⊢
  rcases id hF with ⟨_, rfl⟩ | ⟨_, _, f, rfl, _⟩
  · repeat' ((conv => whnf); first | refine RetC.mk ?_ | refine NzC.mk (by decide) ?_ | refine RngC.mk (by omega) (by omega) ?_ | refine IdxC.mk (by omega) (by omega) ?_ | refine brD (fun _ => ?_) (fun _ => ?_) | refine brND (fun _ => ?_) (fun _ => ?_) | refine brN (fun _ => ?_) (fun _ => ?_) | refine brI (fun _ => ?_) (fun _ => ?_))
    exact ⟨⟨_, rfl, hF⟩, hx1⟩
  · repeat' ((conv => whnf); first | refine RetC.mk ?_ | refine NzC.mk (by decide) ?_ | refine RngC.mk (by omega) (by omega) ?_ | refine IdxC.mk (by omega) (by omega) ?_ | refine brD (fun _ => ?_) (fun _ => ?_) | refine brND (fun _ => ?_) (fun _ => ?_) | refine brN (fun _ => ?_) (fun _ => ?_) | refine brI (fun _ => ?_) (fun _ => ?_))
    exact ⟨⟨_, rfl, hF⟩, hx1⟩
def bornCells (s0 s1 : Option Addr) (a : Option Addr) (n c : Nat) : List Value := [.pointer s0, .pointer s1, .slice a n c, .slice none 0 0, .int .i64 (-1), .int .i64 0, .slice none 0 0]
def madeH (bw : Nat) (a : Option Addr) (c : Nat) (xs : List RuleS) (N : Int → NodeS) (B : Int → BytS) (Y Z : SideA) : Nat → List Ent
  | 0 => [blk bw 96 (bornCells none none a xs.length c), ownL 92 5 encRule (.slice a xs.length c) xs]
  | 1 => [blk bw 96 (bornCells (some ⟨Y.s, 0, none⟩) none a xs.length c), ownL 92 5 encRule (.slice a xs.length c) xs, blk Y.s 101 [.pointer (some ⟨Y.A.n, 0, none⟩), .pointer (some ⟨Y.A.b, 0, none⟩)]] ++ nodeB Y.A (N 0) (B 0)
  | _ => [blk bw 96 (bornCells (some ⟨Y.s, 0, none⟩) (some ⟨Z.s, 0, none⟩) a xs.length c), ownL 92 5 encRule (.slice a xs.length c) xs, blk Y.s 101 [.pointer (some ⟨Y.A.n, 0, none⟩), .pointer (some ⟨Y.A.b, 0, none⟩)], blk Z.s 101 [.pointer (some ⟨Z.A.n, 0, none⟩), .pointer (some ⟨Z.A.b, 0, none⟩)]] ++ (nodeB Y.A (N 0) (B 0) ++ nodeB Z.A (N 1) (B 1))
theorem wnew_ok {G : RuleS → Prop} {a : Option Addr} {n c : Nat} {xs : List RuleS} (hx : Slc w 5 encRule G a n xs) (hn : n ≤ 1000) (hE : Errs w E q insErrs) (hq : q ≤ w.heap.size) (h0 : (faultL xs).1 = 0) :
    CallC Tryz.prog 11 #[.slice a n c] w fun v w' => ∃ X, v = .tuple #[.pointer (some ⟨X.w, 0, none⟩), .nilIface] ∧ Ext No w w' ∧ Stands E q 0 w' X (.born xs) ∧ ∀ b, inF (worldH X (.born xs)) b → w.heap.size ≤ b := by
  obtain ⟨hb0, hb1, hok⟩ := WOk.born (fault_good.1 h0)
  have hl := hx.len
  have hby : BOk by0 := ⟨by simp [by0], by decide, by decide⟩
  refine fn_intro tabOk Tryz.func11 (by kernel_rfl) rfl Tryz.ntmps11 (Nat.le_of_ble_eq_true rfl) ?_
  have hS := St.start w No
  (conv => whnf)
  refine (rcheck_ok hx (hE.sub rfl)).mono ?_
  rintro v w1 ⟨hF, hx1⟩
  obtain rfl : v = .nilIface := by
    rw [h0] at hF
    rcases hF with ⟨_, h⟩ | ⟨_, h, _⟩
    · exact h
    · exact absurd h (by decide)
  clear hF
  replace hS := hS.no hx1
  (conv => whnf)
  refine (rclone_ok (hx.no hS.ext) hn).mono ?_
  rintro v w2 ⟨a2, c2, rfl, hx2, ho, hf⟩
  replace hS := hS.made hx2 ownL_local ho (fun g hg => hf g (by simpa [ownL, own] using hg))
  clear hx1 hx2 ho hf
  (conv => whnf)
  refine hS.new (fun bw w3 hbw hS => ?_)
  replace hS := hS.sel [1, 0] (by decide)
  rw [← hl] at hS
  replace hS : St w No w3 (madeH bw a2 c2 xs (fun i => (newN i by0 xs).2.1) (fun i => (newN i by0 xs).2.2) ⟨0, ⟨0, 0, 0, 0, 0, 0, 0, none, 0⟩⟩ ⟨0, ⟨0, 0, 0, 0, 0, 0, 0, none, 0⟩⟩ 0) := hS
  generalize hNf : (fun i => (newN i by0 xs).2.1) = N at hS
  generalize hBf : (fun i => (newN i by0 xs).2.2) = B at hS
  have e0 : N 0 = (newN 0 by0 xs).2.1 ∧ B 0 = (newN 0 by0 xs).2.2 ∧ N 1 = (newN 1 by0 xs).2.1 ∧ B 1 = (newN 1 by0 xs).2.2 := by subst hNf hBf; exact ⟨rfl, rfl, rfl, rfl⟩
  have hbn : WorldS.born xs = ⟨⟨some (N 0), B 0⟩, ⟨some (N 1), B 1⟩, xs, [], -1, 0, []⟩ := by subst hNf hBf; rfl
  rw [hbn] at hok ⊢
  clear hNf hBf hbn
  have hsrc : ∀ {b : Nat}, w.heap.size ≤ b → 0 < n → ∀ b0 o0, a = some ⟨b0, o0, none⟩ → b0 ≠ b := fun hb h1 b0 o0 h2 => by
    obtain ⟨b1, o1, x, _, _, h3, h4, _⟩ := hx.at h1
    rw [h2] at h3
    simp only [Option.some.injEq, Addr.mk.injEq] at h3
    obtain ⟨rfl, _⟩ := h3
    omega
  (conv => whnf)
  refine loopR tabOk (fun σ w' q' => ∃ (k : Nat) (Y Z : SideA), σ = [(19, .int .i64 k), (5, .pointer (some ⟨bw, 0, none⟩)), (0, .slice a n c)] ∧ q' = 2 - k ∧ k ≤ 2 ∧ St w No w' (madeH bw a2 c2 xs N B Y Z k))
    (σ' := [(19, .int .i64 ((0 : Nat) : Int)), (5, .pointer (some ⟨bw, 0, none⟩)), (0, .slice a n c)]) (n := 2) ⟨rfl, rfl, rfl, trivial⟩ ⟨0, _, _, rfl, rfl, Nat.zero_le _, hS⟩ ?_
  clear hS
  rintro _ w4 q' ⟨k, Y, Z, rfl, rfl, hk, hS⟩
  (conv => whnf)
  refine brD (fun h3 => ?_) (fun h3 => ?_)
  · have hk2 : k = 0 ∨ k = 1 := by omega
    rcases hk2 with rfl | rfl
    · have hsz := hS.ext.size
      (conv => whnf)
      refine (newBytes_ok _).mono ?_
      rintro v w5 ⟨bb, rfl, hbb, hxb, hB⟩
      replace hS := hS.made hxb (blk_local _ _ _) hB (by simp [blk]; exact ⟨hbb, hB.lt⟩)
      have hwb : w.heap.size ≤ bb := Nat.le_trans hsz hbb
      clear hxb hB
      (conv => whnf)
      refine (nnew_ok 0 (.inl rfl) (hx.no hS.ext) hn h0 (hsrc hwb) (hS.blk 2 rfl) hby rfl ((hE.ext hS.ext fun _ h => h.elim).sub rfl) (Nat.le_trans hq hwb)).mono ?_
      rintro v w6 hnew
      rcases hnew with ⟨_, A, hAb, rfl, hk6⟩ | ⟨h9, _⟩
      case inr => exact absurd hb0 h9
      rw [← e0.1, ← e0.2.1] at hk6
      have hS2 := St.callAt (A := [_, _]) (B := []) hS hk6
      subst hAb
      (conv => whnf)
      refine hS2.new (fun bs w7 hbs hS => ?_)
      (conv => whnf)
      refine IdxC.mk (by decide) (by decide) ?_
      (conv => whnf)
      refine hS.st 0 rfl (Nat.le_of_ble_eq_true rfl) rfl (fun w8 hS => ?_)
      (conv => whnf)
      refine RngC.mk (by omega) (by omega) ?_
      (conv => whnf)
      refine LoopE.mk ⟨_, [(19, .int .i64 ((1 : Nat) : Int)), (5, _), (0, _)], ?_, ⟨rfl, rfl, rfl, trivial⟩, ⟨1, ⟨bs, A⟩, Z, rfl, rfl, by omega, hS.sel [0, 1, 10, 2, 3, 4, 5, 6, 7, 8, 9] (by decide)⟩⟩
      omega
    · have hsz := hS.ext.size
      (conv => whnf)
      refine (newBytes_ok _).mono ?_
      rintro v w5 ⟨bb, rfl, hbb, hxb, hB⟩
      replace hS := hS.made hxb (blk_local _ _ _) hB (by simp [blk]; exact ⟨hbb, hB.lt⟩)
      have hwb : w.heap.size ≤ bb := Nat.le_trans hsz hbb
      clear hxb hB
      (conv => whnf)
      refine (nnew_ok 1 (.inr rfl) (hx.no hS.ext) hn h0 (hsrc hwb) (hS.blk 11 rfl) hby rfl ((hE.ext hS.ext fun _ h => h.elim).sub rfl) (Nat.le_trans hq hwb)).mono ?_
      rintro v w6 hnew
      rcases hnew with ⟨_, A, hAb, rfl, hk6⟩ | ⟨h9, _⟩
      case inr => exact absurd hb1 h9
      rw [← e0.2.2.1, ← e0.2.2.2] at hk6
      have hS2 := St.callAt (A := [_, _, _, _, _, _, _, _, _, _, _]) (B := []) hS hk6
      subst hAb
      (conv => whnf)
      refine hS2.new (fun bs w7 hbs hS => ?_)
      (conv => whnf)
      refine IdxC.mk (by decide) (by decide) ?_
      (conv => whnf)
      refine hS.st 0 rfl (Nat.le_of_ble_eq_true rfl) rfl (fun w8 hS => ?_)
      (conv => whnf)
      refine RngC.mk (by omega) (by omega) ?_
      (conv => whnf)
      refine LoopE.mk ⟨_, [(19, .int .i64 ((2 : Nat) : Int)), (5, _), (0, _)], ?_, ⟨rfl, rfl, rfl, trivial⟩, ⟨2, Y, ⟨bs, A⟩, rfl, rfl, by omega, hS.sel [0, 1, 2, 19, 3, 4, 5, 6, 7, 8, 9, 10, 11, 12, 13, 14, 15, 16, 17, 18] (by decide)⟩⟩
      omega
  · obtain rfl : k = 2 := by omega
    have hS2 := (((hS.addNil 107 5 encNV).add (e := cellsE [] []) cellsE_local (cellsE_nil _) (fun b hb => by simp [cellsE] at hb) (fun f _ b _ hb => by simp [cellsE] at hb)).addNil 64 2 encEv).sel [0, 2, 3, 1, 20, 21, 22, 4, 5, 6, 7, 8, 9, 10, 11, 12, 13, 14, 15, 16, 17, 18, 19] (by decide)
    replace hS2 : St w No w4 (worldH ⟨bw, Y, Z, a2, c2, none, 0, [], none, 0⟩ ⟨⟨some (N 0), B 0⟩, ⟨some (N 1), B 1⟩, xs, [], -1, 0, []⟩) := hS2
    have hfr : ∀ b, inF (worldH ⟨bw, Y, Z, a2, c2, none, 0, [], none, 0⟩ ⟨⟨some (N 0), B 0⟩, ⟨some (N 1), B 1⟩, xs, [], -1, 0, []⟩) b → w.heap.size ≤ b := fun b ⟨e, he, hb⟩ => (hS2.may e he b hb).1.elim (fun h => h.elim) id
    repeat' ((conv => whnf); first | refine RetC.mk ?_ | refine NzC.mk (by decide) ?_ | refine RngC.mk (by omega) (by omega) ?_ | refine IdxC.mk (by omega) (by omega) ?_ | refine brD (fun _ => ?_) (fun _ => ?_) | refine brND (fun _ => ?_) (fun _ => ?_) | refine brN (fun _ => ?_) (fun _ => ?_) | refine brI (fun _ => ?_) (fun _ => ?_))
    exact ⟨⟨bw, Y, Z, a2, c2, none, 0, [], none, 0⟩, rfl, hS2.ext, ⟨hS2.has, hok, hE.ext hS2.ext fun _ h => h.elim, fun b hb => Nat.le_trans hq (hfr b hb)⟩, hfr⟩
end
end Go.Proofs.YtoaghhcjlfiflaaGreatDoor

namespace Go.Proofs.YtoaghhcjlfiflaaGreatDoor
open Go Ev
section
variable {w : World} {b : Nat} {r : RoleS}
theorem ref_hear (e : Int) (hb : Blk w b 178 (encRole r)) : CallC Tryz.prog 179 #[.pointer (some ⟨b, 0, none⟩), .int .i64 e] w fun v w' => v = .bool (r.hear e).1 ∧ Ext (· = b) w w' ∧ Blk w' b 178 (encRole (r.hear e).2) := by
  refine fn_intro tabOk Tryz.func179 (by kernel_rfl) rfl Tryz.ntmps179 (Nat.le_of_ble_eq_true rfl) ?_
  have hS := (St.start w (· = b)).add (blk_local b _ _) hb (by simp [blk]; exact hb.lt) (by simp)
  (conv => whnf)
  refine brD (fun h1 => ?_) (fun h1 => ?_)
  · repeat' ((conv => whnf); first | refine RetC.mk ?_ | refine NzC.mk (by decide) ?_ | refine RngC.mk (by omega) (by omega) ?_ | refine IdxC.mk (by omega) (by omega) ?_ | refine brD (fun _ => ?_) (fun _ => ?_) | refine brND (fun _ => ?_) (fun _ => ?_) | refine brN (fun _ => ?_) (fun _ => ?_) | refine brI (fun _ => ?_) (fun _ => ?_))
    rw [show r.hear e = (false, r) from if_pos (.inl h1)]
    exact ⟨rfl, hS.ext, hS.blk 0 rfl⟩
  (conv => whnf)
  refine brD (fun h2 => ?_) (fun h2 => ?_)
  · repeat' ((conv => whnf); first | refine RetC.mk ?_ | refine NzC.mk (by decide) ?_ | refine RngC.mk (by omega) (by omega) ?_ | refine IdxC.mk (by omega) (by omega) ?_ | refine brD (fun _ => ?_) (fun _ => ?_) | refine brND (fun _ => ?_) (fun _ => ?_) | refine brN (fun _ => ?_) (fun _ => ?_) | refine brI (fun _ => ?_) (fun _ => ?_))
    rw [show r.hear e = (false, r) from if_pos (.inr h2)]
    exact ⟨rfl, hS.ext, hS.blk 0 rfl⟩
  (conv => whnf)
  refine hS.ld 0 rfl rfl ?_
  (conv => whnf)
  refine brD (fun h3 => ?_) (fun h3 => ?_)
  · (conv => whnf)
    refine hS.ld 0 rfl (v := .bool r.active) rfl ?_
    (conv => whnf)
    refine hS.st 0 rfl (Nat.le_of_ble_eq_true rfl) rfl (fun w' hS => ?_)
    (conv => whnf)
    refine hS.st 0 rfl (Nat.le_of_ble_eq_true rfl) rfl (fun w' hS => ?_)
    (conv => whnf)
    refine hS.ld 0 rfl rfl ?_
    (conv => whnf)
    refine hS.ld 0 rfl rfl ?_
    (conv => whnf)
    refine brD (fun h5 => ?_) (fun h5 => ?_)
    · (conv => whnf)
      refine hS.st 0 rfl (Nat.le_of_ble_eq_true rfl) rfl (fun w' hS => ?_)
      repeat' ((conv => whnf); first | refine RetC.mk ?_ | refine NzC.mk (by decide) ?_ | refine RngC.mk (by omega) (by omega) ?_ | refine IdxC.mk (by omega) (by omega) ?_ | refine brD (fun _ => ?_) (fun _ => ?_) | refine brND (fun _ => ?_) (fun _ => ?_) | refine brN (fun _ => ?_) (fun _ => ?_) | refine brI (fun _ => ?_) (fun _ => ?_))
      rw [show r.hear e = (r.active, { r with epoch := e, active := false, silence := 0 }) by
        unfold RoleS.hear
        rw [if_neg (by omega)]
        simp [h3]]
      exact ⟨rfl, hS.ext, hS.blk 0 rfl⟩
    · exact absurd rfl h5
  (conv => whnf)
  refine hS.ld 0 rfl rfl ?_
  (conv => whnf)
  refine brN (fun h4 => ?_) (fun h4 => ?_)
  · (conv => whnf)
    refine hS.ld 0 rfl rfl ?_
    (conv => whnf)
    refine brD (fun h5 => ?_) (fun h5 => ?_)
    · (conv => whnf)
      refine hS.st 0 rfl (Nat.le_of_ble_eq_true rfl) rfl (fun w' hS => ?_)
      repeat' ((conv => whnf); first | refine RetC.mk ?_ | refine NzC.mk (by decide) ?_ | refine RngC.mk (by omega) (by omega) ?_ | refine IdxC.mk (by omega) (by omega) ?_ | refine brD (fun _ => ?_) (fun _ => ?_) | refine brND (fun _ => ?_) (fun _ => ?_) | refine brN (fun _ => ?_) (fun _ => ?_) | refine brI (fun _ => ?_) (fun _ => ?_))
      rw [show r.hear e = (false, { r with silence := 0 }) by
        unfold RoleS.hear
        rw [if_neg (by omega)]
        simp [h3, h4, h5]]
      exact ⟨rfl, hS.ext, hS.blk 0 rfl⟩
    · repeat' ((conv => whnf); first | refine RetC.mk ?_ | refine NzC.mk (by decide) ?_ | refine RngC.mk (by omega) (by omega) ?_ | refine IdxC.mk (by omega) (by omega) ?_ | refine brD (fun _ => ?_) (fun _ => ?_) | refine brND (fun _ => ?_) (fun _ => ?_) | refine brN (fun _ => ?_) (fun _ => ?_) | refine brI (fun _ => ?_) (fun _ => ?_))
      rw [show r.hear e = (false, r) by
        unfold RoleS.hear
        rw [if_neg (by omega)]
        simp [h3, h5]]
      exact ⟨rfl, hS.ext, hS.blk 0 rfl⟩
  · repeat' ((conv => whnf); first | refine RetC.mk ?_ | refine NzC.mk (by decide) ?_ | refine RngC.mk (by omega) (by omega) ?_ | refine IdxC.mk (by omega) (by omega) ?_ | refine brD (fun _ => ?_) (fun _ => ?_) | refine brND (fun _ => ?_) (fun _ => ?_) | refine brN (fun _ => ?_) (fun _ => ?_) | refine brI (fun _ => ?_) (fun _ => ?_))
    rw [show r.hear e = (false, r) by
      unfold RoleS.hear
      rw [if_neg (by omega)]
      simp [h3, h4]]
    exact ⟨rfl, hS.ext, hS.blk 0 rfl⟩
end
end Go.Proofs.YtoaghhcjlfiflaaGreatDoor

namespace Go.Proofs.YtoaghhcjlfiflaaGreatDoor
open Go Ev

theorem rbyte_ok (n : Nat) (hn : n < 256) (w : World) : CallC Tryz.prog 161 #[.int .i64 (n : Int)] w fun v w' => v = .string (bs [UInt8.ofNat n]) ∧ Ext No w w' := by
  have hb : ((UInt8.ofNat n).toNat : Int) = (n : Int) := by rw [byte_of]; omega
  refine fn_intro tabOk Tryz.func161 (by kernel_rfl) rfl Tryz.ntmps161 (Nat.le_of_ble_eq_true rfl) ?_
  have hS := St.start w No
  (conv => whnf)
  refine convI (kd := .u8) (m := ((UInt8.ofNat n).toNat : Int)) (by kernel_rfl) Tryz.underlying5 (by rw [IntKind.wrap_u8', hb]; omega) ?_
  (conv => whnf)
  refine hS.lit (cs := encU (UInt8.ofNat n)) Tryz.underlying169 (sz := 1) (by kernel_rfl) (z := .int .u8 0) (by kernel_rfl) rfl rfl (by rfl) (fun bz w' hbz hS => ?_)
  have h0 : CellsAt w' bz 0 ([UInt8.ofNat n].flatMap encU) := (hS.blk 0 rfl).cells rfl
  (conv => whnf)
  refine strC Tryz.underlying169 Tryz.underlying5 Tryz.underlying9 h0 rfl ?_
  repeat' ((conv => whnf); first | refine RetC.mk ?_ | refine NzC.mk (by decide) ?_ | refine RngC.mk (by omega) (by omega) ?_ | refine IdxC.mk (by omega) (by omega) ?_ | refine brD (fun _ => ?_) (fun _ => ?_) | refine brND (fun _ => ?_) (fun _ => ?_) | refine brN (fun _ => ?_) (fun _ => ?_) | refine brI (fun _ => ?_) (fun _ => ?_))
  exact ⟨rfl, hS.ext⟩
theorem numB_head (n m : Nat) : numB n (m + 1) = UInt8.ofNat (n / 256 ^ m) :: numB n m := by
  unfold numB
  rw [List.range_succ_eq_map, List.map_cons, List.map_map]
  congr 1
  apply List.map_congr_left
  intro j hj
  have hj := List.mem_range.1 hj
  simp only [Function.comp]
  rw [show m + 1 - 1 - (j + 1) = m - 1 - j by omega]
theorem wide_ok (n m : Nat) (hm : m ≤ 100) (hn : n < 9223372036854775808) (w : World) :
    CallC Tryz.prog 203 #[.int .i64 (n : Int), .int .i64 (m : Int)] w fun v w' => v = .string (bs (numB n m)) ∧ Ext No w w' := by
  refine fn_intro tabOk Tryz.func203 (by kernel_rfl) rfl Tryz.ntmps203 (Nat.le_of_ble_eq_true rfl) ?_
  have hS := St.start w No
  (conv => whnf)
  refine loopR tabOk (fun σ w' q => ∃ i : Nat, σ = [(6, .int .i64 i), (5, .string (bs (numB n i))), (1, .int .i64 m), (0, .int .i64 (n / 256 ^ i : Nat))] ∧ q = m - i ∧ i ≤ m ∧ St w No w' [])
    (σ' := [(6, .int .i64 ((0 : Nat) : Int)), (5, .string (bs (numB n 0))), (1, .int .i64 m), (0, .int .i64 n)]) (n := m) ⟨rfl, rfl, rfl, rfl, trivial⟩ ⟨0, by simp, rfl, Nat.zero_le _, hS⟩ ?_
  clear hS
  rintro _ w1 q ⟨i, rfl, rfl, hi, hS⟩
  have hle : n / 256 ^ i ≤ n := Nat.div_le_self _ _
  have hst := numB_head n i
  have hdd : n / 256 ^ (i + 1) = n / 256 ^ i / 256 := by rw [Nat.pow_succ, Nat.div_div_eq_div_mul]
  have hof : UInt8.ofNat (n / 256 ^ i) = UInt8.ofNat (n / 256 ^ i % 256) := by
    apply UInt8.toNat_inj.1
    rw [UInt8.toNat_ofNat', UInt8.toNat_ofNat']
    omega
  generalize n / 256 ^ i = d at hle hst hdd hof
  (conv => whnf)
  refine brD (fun h3 => ?_) (fun h3 => ?_)
  · have hm1 : (d : Int).tmod 256 = ((d % 256 : Nat) : Int) := by rw [Int.tmod_eq_emod_of_nonneg (by omega)]; omega
    have hd1 : (d : Int).tdiv 256 = ((d / 256 : Nat) : Int) := by rw [Int.tdiv_eq_ediv_of_nonneg (by omega)]; omega
    (conv => whnf)
    refine NzC.mk (by decide) ?_
    rw [hm1]
    (conv => whnf)
    refine (rbyte_ok (d % 256) (by omega) _).mono ?_
    rintro v w' ⟨rfl, hx⟩
    replace hS := hS.no hx
    (conv => whnf)
    refine addS (by rw [numB_len]; simp; omega) ?_
    rw [← hof, List.singleton_append, ← hst]
    (conv => whnf)
    refine NzC.mk (by decide) ?_
    rw [hd1]
    (conv => whnf)
    refine RngC.mk (by omega) (by omega) ?_
    (conv => whnf)
    refine RngC.mk (by omega) (by omega) ?_
    (conv => whnf)
    refine LoopE.mk ⟨_, [(6, .int .i64 ((i + 1 : Nat) : Int)), (5, _), (1, _), (0, .int .i64 (n / 256 ^ (i + 1) : Nat))], ?_, ⟨rfl, rfl, rfl, by rw [hdd]; rfl, trivial⟩, ⟨i + 1, rfl, rfl, by omega, hS⟩⟩
    omega
  · obtain rfl : i = m := by omega
    repeat' ((conv => whnf); first | refine RetC.mk ?_ | refine NzC.mk (by decide) ?_ | refine RngC.mk (by omega) (by omega) ?_ | refine IdxC.mk (by omega) (by omega) ?_ | refine brD (fun _ => ?_) (fun _ => ?_) | refine brND (fun _ => ?_) (fun _ => ?_) | refine brN (fun _ => ?_) (fun _ => ?_) | refine brI (fun _ => ?_) (fun _ => ?_))
    exact ⟨rfl, hS.ext⟩
end Go.Proofs.YtoaghhcjlfiflaaGreatDoor

namespace Go.Proofs.YtoaghhcjlfiflaaGreatDoor
open Go Ev

def rIt (x : Nat) : Nat → Nat → Nat
  | 0, c => c
  | k + 1, c => if (rIt x k c ^^^ x / 2 ^ k) % 2 = 1 then rIt x k c / 2 ^^^ 3988292384 else rIt x k c / 2
theorem xor_half (a b : Nat) : (a ^^^ b) / 2 ^ 1 = a / 2 ^ 1 ^^^ b / 2 ^ 1 := by
  have := Nat.shiftRight_xor_distrib (a := a) (b := b) (i := 1)
  simpa [Nat.shiftRight_eq_div_pow] using this
theorem rIt_eq (x c : Nat) : ∀ k, crcIt k (c ^^^ x) = rIt x k c ^^^ x / 2 ^ k
  | 0 => by simp [crcIt, rIt]
  | k + 1 => by
    have ih := rIt_eq x c k
    have e : x / 2 ^ (k + 1) = x / 2 ^ k / 2 ^ 1 := by rw [Nat.pow_succ, Nat.div_div_eq_div_mul]
    unfold crcIt crcBit rIt
    rw [ih, xor_half, Nat.and_one_is_mod, e]
    generalize x / 2 ^ k = q
    generalize rIt x k c = r
    split
    · rename_i h
      rw [h, Nat.mul_one, Nat.pow_one, Nat.xor_assoc, Nat.xor_assoc]
      first | done | rw [Nat.xor_comm (q / 2)]
    · rename_i h
      have : (r ^^^ q) % 2 = 0 := by omega
      rw [this, Nat.mul_zero, Nat.pow_one, Nat.xor_zero]
theorem rIt_byte (c : Nat) (x : UInt8) : rIt x.toNat 8 c = crcByte c x := by
  unfold crcByte
  rw [rIt_eq]
  have := x.toNat_lt
  rw [Nat.div_eq_of_lt (by omega), Nat.xor_zero]
theorem rIt_lt {c x : Nat} (h : c < 4294967296) : ∀ k, rIt x k c < 4294967296
  | 0 => h
  | k + 1 => by
    have := rIt_lt (x := x) h k
    unfold rIt
    split
    · exact Nat.xor_lt_two_pow (n := 32) (by omega) (by omega)
    · omega

theorem crc_ok (l : List UInt8) (hl : l.length ≤ 1000000) (w : World) :
    CallC Tryz.prog 204 #[.string (bs l)] w fun v w' => v = .int .i64 (sumB l : Nat) ∧ Ext No w w' := by
  refine fn_intro tabOk Tryz.func204 (by kernel_rfl) rfl Tryz.ntmps204 (Nat.le_of_ble_eq_true rfl) ?_
  have hS := St.start w No
  (conv => whnf)
  refine loopR tabOk (fun σ w' q => ∃ i : Nat, σ = [(4, .int .i64 i), (3, .int .i64 (crcN (l.take i) : Nat)), (0, .string (bs l))] ∧ q = l.length - i ∧ i ≤ l.length ∧ St w No w' [])
    (σ' := [(4, .int .i64 ((0 : Nat) : Int)), (3, .int .i64 ((4294967295 : Nat) : Int)), (0, .string (bs l))]) (n := l.length) ⟨rfl, rfl, rfl, trivial⟩ ⟨0, rfl, rfl, Nat.zero_le _, hS⟩ ?_
  clear hS
  rintro _ w1 q ⟨i, rfl, rfl, hi, hS⟩
  (conv => whnf)
  rw [bs_size]
  refine brD (fun h3 => ?_) (fun h3 => ?_)
  · obtain ⟨x, hx⟩ : ∃ x, l[i]? = some x := ⟨_, List.getElem?_eq_getElem (by omega)⟩
    have hst := crcN_step hx
    have hlt := crcN_lt (l.take i)
    have hx8 := x.toNat_lt
    generalize crcN (l.take i) = c at hst hlt
    (conv => whnf)
    refine loopR tabOk (fun σ w' q => ∃ j : Nat, σ = [(5, .int .i64 j), (4, .int .i64 i), (3, .int .i64 (rIt x.toNat j c : Nat)), (0, .string (bs l))] ∧ q = 8 - j ∧ j ≤ 8 ∧ St w No w' [])
      (σ' := [(5, .int .i64 ((0 : Nat) : Int)), (4, .int .i64 i), (3, .int .i64 (rIt x.toNat 0 c : Nat)), (0, .string (bs l))]) (n := 8) ⟨rfl, rfl, rfl, rfl, trivial⟩ ⟨0, rfl, rfl, Nat.zero_le _, hS⟩ ?_
    clear hS
    rintro _ w2 q ⟨j, rfl, rfl, hj, hS⟩
    have hd := rIt_lt (x := x.toNat) hlt j
    have hdd : rIt x.toNat (j + 1) c = if (rIt x.toNat j c ^^^ x.toNat / 2 ^ j) % 2 = 1 then rIt x.toNat j c / 2 ^^^ 3988292384 else rIt x.toNat j c / 2 := rfl
    have h88 := rIt_byte c x
    have hq : x.toNat / 2 ^ j ≤ x.toNat := Nat.div_le_self _ _
    (conv => whnf)
    refine brD (fun h4 => ?_) (fun h4 => ?_)
    · generalize rIt x.toNat j c = d at hd hdd
      (conv => whnf)
      refine idxS Tryz.underlying9 rfl hx ?_
      (conv => whnf)
      refine convI (kd := .i64) (m := (x.toNat : Int)) (by kernel_rfl) Tryz.underlying3 (by rw [IntKind.wrap_i64]; omega) ?_
      (conv => whnf)
      refine convI (kd := .u64) (m := (j : Int)) (by kernel_rfl) Tryz.underlying257 (by simp [IntKind.wrap, IntKind.bits, IntKind.signed]; omega) ?_
      (conv => whnf)
      refine shrN (n := j) rfl (by show j ≤ 64; omega) ?_
      (conv => whnf)
      refine xorC64 (by omega) (by omega) ?_
      have hm : ((d ^^^ x.toNat / 2 ^ j : Nat) : Int).tmod 2 = (((d ^^^ x.toNat / 2 ^ j) % 2 : Nat) : Int) := by rw [Int.tmod_eq_emod_of_nonneg (by omega)]; omega
      have hd2 : (d : Int).tdiv 2 = ((d / 2 : Nat) : Int) := by rw [Int.tdiv_eq_ediv_of_nonneg (by omega)]; omega
      (conv => whnf)
      refine NzC.mk (by decide) ?_
      rw [hm]
      generalize d ^^^ x.toNat / 2 ^ j = z at hdd
      (conv => whnf)
      refine NzC.mk (by decide) ?_
      rw [hd2]
      (conv => whnf)
      refine RngC.mk (by omega) (by omega) ?_
      (conv => whnf)
      refine brD (fun h5 => ?_) (fun h5 => ?_)
      · rw [if_pos (by omega)] at hdd
        (conv => whnf)
        refine xorC64 (b := 3988292384) (by omega) (by omega) ?_
        rw [← hdd]
        (conv => whnf)
        refine RngC.mk (by omega) (by omega) ?_
        (conv => whnf)
        refine LoopE.mk ⟨_, [(5, .int .i64 ((j + 1 : Nat) : Int)), (4, _), (3, _), (0, _)], ?_, ⟨rfl, rfl, rfl, rfl, trivial⟩, ⟨j + 1, rfl, rfl, by omega, hS⟩⟩
        omega
      · rw [if_neg (by omega)] at hdd
        rw [← hdd]
        (conv => whnf)
        refine RngC.mk (by omega) (by omega) ?_
        (conv => whnf)
        refine LoopE.mk ⟨_, [(5, .int .i64 ((j + 1 : Nat) : Int)), (4, _), (3, _), (0, _)], ?_, ⟨rfl, rfl, rfl, rfl, trivial⟩, ⟨j + 1, rfl, rfl, by omega, hS⟩⟩
        omega
    · obtain rfl : j = 8 := by omega
      rw [h88, ← hst]
      (conv => whnf)
      refine RngC.mk (by omega) (by omega) ?_
      (conv => whnf)
      refine LoopE.mk ⟨_, [(4, .int .i64 ((i + 1 : Nat) : Int)), (3, _), (0, _)], ?_, ⟨rfl, rfl, rfl, trivial⟩, ⟨i + 1, rfl, rfl, by omega, hS⟩⟩
      omega
  · obtain rfl : i = l.length := by omega
    rw [List.take_length]
    have h1 := crcN_lt l
    (conv => whnf)
    refine xorC64 (b := 4294967295) (by omega) (by omega) ?_
    rw [Nat.xor_comm]
    repeat' ((conv => whnf); first | refine RetC.mk ?_ | refine NzC.mk (by decide) ?_ | refine RngC.mk (by omega) (by omega) ?_ | refine IdxC.mk (by omega) (by omega) ?_ | refine brD (fun _ => ?_) (fun _ => ?_) | refine brND (fun _ => ?_) (fun _ => ?_) | refine brN (fun _ => ?_) (fun _ => ?_) | refine brI (fun _ => ?_) (fun _ => ?_))
    exact ⟨rfl, hS.ext⟩

theorem rbody_ok (n e l : Nat) (hn : n < 9223372036854775808) (he : e < 9223372036854775808) (hl : l < 9223372036854775808) (w : World) :
    CallC Tryz.prog 160 #[.int .i64 (n : Int), .int .i64 (e : Int), .int .i64 (l : Int)] w fun v w' => v = .string (bs (bodyB n e l)) ∧ Ext No w w' := by
  have hs := sumB_lt (headB n e l)
  refine fn_intro tabOk Tryz.func160 (by kernel_rfl) rfl Tryz.ntmps160 (Nat.le_of_ble_eq_true rfl) ?_
  have hS := St.start w No
  (conv => whnf)
  refine (wide_ok n 4 (by omega) hn _).mono ?_
  rintro v w' ⟨rfl, hx⟩
  replace hS := hS.no hx
  (conv => whnf)
  refine (wide_ok e 4 (by omega) he _).mono ?_
  rintro v w' ⟨rfl, hx⟩
  replace hS := hS.no hx
  (conv => whnf)
  refine addS (by simp [numB_len]) ?_
  (conv => whnf)
  refine (wide_ok l 4 (by omega) hl _).mono ?_
  rintro v w' ⟨rfl, hx⟩
  replace hS := hS.no hx
  (conv => whnf)
  refine addS (by simp [numB_len]) ?_
  rw [show numB n 4 ++ numB e 4 ++ numB l 4 = headB n e l from rfl]
  (conv => whnf)
  refine (crc_ok (headB n e l) (by rw [headB_len]; omega) _).mono ?_
  rintro v w' ⟨rfl, hx⟩
  replace hS := hS.no hx
  (conv => whnf)
  refine (wide_ok (sumB (headB n e l)) 4 (by omega) (by omega) _).mono ?_
  rintro v w' ⟨rfl, hx⟩
  replace hS := hS.no hx
  (conv => whnf)
  refine addS (by simp [numB_len, headB_len]) ?_
  repeat' ((conv => whnf); first | refine RetC.mk ?_ | refine NzC.mk (by decide) ?_ | refine RngC.mk (by omega) (by omega) ?_ | refine IdxC.mk (by omega) (by omega) ?_ | refine brD (fun _ => ?_) (fun _ => ?_) | refine brND (fun _ => ?_) (fun _ => ?_) | refine brN (fun _ => ?_) (fun _ => ?_) | refine brI (fun _ => ?_) (fun _ => ?_))
  exact ⟨rfl, hS.ext⟩
theorem rvalue_ok (l : List UInt8) (hl : l.length ≤ 7) (w : World) :
    CallC Tryz.prog 159 #[.string (bs l)] w fun v w' => v = .int .i64 (valB l : Nat) ∧ Ext No w w' := by
  refine fn_intro tabOk Tryz.func159 (by kernel_rfl) rfl Tryz.ntmps159 (Nat.le_of_ble_eq_true rfl) ?_
  have hS := St.start w No
  (conv => whnf)
  refine loopR tabOk (fun σ w' q => ∃ i : Nat, σ = [(4, .int .i64 i), (3, .int .i64 (valB (l.take i) : Nat)), (0, .string (bs l))] ∧ q = l.length - i ∧ i ≤ l.length ∧ St w No w' [])
    (σ' := [(4, .int .i64 ((0 : Nat) : Int)), (3, .int .i64 ((0 : Nat) : Int)), (0, .string (bs l))]) (n := l.length) ⟨rfl, rfl, rfl, trivial⟩ ⟨0, rfl, rfl, Nat.zero_le _, hS⟩ ?_
  clear hS
  rintro _ w1 q ⟨i, rfl, rfl, hi, hS⟩
  (conv => whnf)
  rw [bs_size]
  refine brD (fun h3 => ?_) (fun h3 => ?_)
  · obtain ⟨x, hx⟩ : ∃ x, l[i]? = some x := ⟨_, List.getElem?_eq_getElem (by omega)⟩
    have hst := valB_step hx
    have hlt := valB_lt (l.take i)
    have h7 : 256 ^ (l.take i).length ≤ 256 ^ 6 := Nat.pow_le_pow_right (by omega) (by rw [List.length_take]; omega)
    have hx8 := x.toNat_lt
    generalize valB (l.take i) = v at hst hlt
    have hv : v < 281474976710656 := Nat.lt_of_lt_of_le hlt h7
    (conv => whnf)
    refine RngC.mk (by omega) (by omega) ?_
    (conv => whnf)
    refine idxS Tryz.underlying9 rfl hx ?_
    (conv => whnf)
    refine convI (kd := .i64) (m := (x.toNat : Int)) (by kernel_rfl) Tryz.underlying3 (by rw [IntKind.wrap_i64]; omega) ?_
    (conv => whnf)
    refine RngC.mk (by omega) (by omega) ?_
    rw [show 256 * (v : Int) + (x.toNat : Int) = ((valB (l.take (i + 1)) : Nat) : Int) by rw [hst]; omega]
    (conv => whnf)
    refine RngC.mk (by omega) (by omega) ?_
    (conv => whnf)
    refine LoopE.mk ⟨_, [(4, .int .i64 ((i + 1 : Nat) : Int)), (3, _), (0, _)], ?_, ⟨rfl, rfl, rfl, trivial⟩, ⟨i + 1, rfl, rfl, by omega, hS⟩⟩
    omega
  · obtain rfl : i = l.length := by omega
    rw [List.take_length]
    repeat' ((conv => whnf); first | refine RetC.mk ?_ | refine NzC.mk (by decide) ?_ | refine RngC.mk (by omega) (by omega) ?_ | refine IdxC.mk (by omega) (by omega) ?_ | refine brD (fun _ => ?_) (fun _ => ?_) | refine brND (fun _ => ?_) (fun _ => ?_) | refine brN (fun _ => ?_) (fun _ => ?_) | refine brI (fun _ => ?_) (fun _ => ?_))
    exact ⟨rfl, hS.ext⟩
end Go.Proofs.YtoaghhcjlfiflaaGreatDoor

namespace Go.Proofs.YtoaghhcjlfiflaaGreatDoor
open Go Ev

structure RBy where
  data : List UInt8
  off : Bool
  left : Int
  bnd : Bool
def encRB (B : RBy) : List Value := [.string (bs B.data), .bool B.off, .int .i64 B.left, .bool B.bnd]
structure Alike (R : RBy) (B : BytS) : Prop where
  data : R.data = B.data
  off : R.off = B.off
  left : R.bnd = true → R.left = B.left ∧ 0 ≤ B.left
  free : R.bnd = false → B.left = -1
theorem write_free : ∀ (s : List UInt8) (d : List UInt8) (p : Nat), p + s.length ≤ d.length → BytS.write ⟨d, false, -1⟩ p s = (true, ⟨laid d p s, false, -1⟩)
  | [], d, p, _ => by rw [laid_nil]; rfl
  | x :: r, d, p, h => by
    rw [List.length_cons] at h
    rw [write_cons, if_neg (by simp)]
    have ih := write_free r (d.set p x) (p + 1) (by rw [List.length_set]; omega)
    rw [laid_cons h] at ih
    exact ih
theorem write_bnd : ∀ (s : List UInt8) (d : List UInt8) (p n : Nat), p + s.length ≤ d.length → BytS.write ⟨d, false, (n : Int)⟩ p s = if s.length ≤ n then (true, ⟨laid d p s, false, (n : Int) - s.length⟩) else (false, ⟨laid d p (s.take n), true, 0⟩)
  | [], d, p, n, _ => by
    rw [laid_nil, if_pos (by simp)]
    simp [write_nil]
  | x :: r, d, p, 0, h => by
    rw [write_cons, if_pos (by simp), if_neg (by simp), List.take_zero, laid_nil]
    rfl
  | x :: r, d, p, n + 1, h => by
    rw [List.length_cons] at h
    have e : (if ((n + 1 : Nat) : Int) - 1 > -1 then ((n + 1 : Nat) : Int) - 1 else -1) = (n : Int) := by
      rw [if_pos (by omega)]
      omega
    have ih := write_bnd r (d.set p x) (p + 1) n (by rw [List.length_set]; omega)
    rw [write_cons, if_neg (by simp; omega)]
    dsimp only
    rw [e, ih, List.take_succ_cons, List.length_cons]
    by_cases hn : r.length ≤ n
    · rw [if_pos hn, if_pos (by omega), laid_cons h]
      congr 2
      omega
    · rw [if_neg hn, if_neg (by omega), laid_cons (by rw [List.length_take]; omega)]
theorem write_off {d : List UInt8} {l : Int} {p : Nat} {s : List UInt8} (hs : s ≠ []) : BytS.write ⟨d, true, l⟩ p s = (false, ⟨d, true, l⟩) := by
  cases s with
  | nil => exact absurd rfl hs
  | cons x r => rw [write_cons, if_pos (.inl rfl)]
section
variable {w : World} {b : Nat} {B : BytS} {R : RBy}
theorem rbon_ok (hb : Blk w b 171 (encRB R)) : CallC Tryz.prog 115 #[.pointer (some ⟨b, 0, none⟩)] w fun _ w' => Ext (· = b) w w' ∧ Blk w' b 171 (encRB ⟨R.data, false, R.left, false⟩) := by
  refine fn_intro tabOk Tryz.func115 (by kernel_rfl) rfl Tryz.ntmps115 (Nat.le_of_ble_eq_true rfl) ?_
  have hS := (St.start w (· = b)).add (blk_local b _ _) hb (by simp [blk]; exact hb.lt) (by simp)
  (conv => whnf)
  refine hS.st 0 rfl (Nat.le_of_ble_eq_true rfl) rfl (fun w' hS => ?_)
  (conv => whnf)
  refine hS.st 0 rfl (Nat.le_of_ble_eq_true rfl) rfl (fun w' hS => ?_)
  repeat' ((conv => whnf); first | refine RetC.mk ?_ | refine NzC.mk (by decide) ?_ | refine RngC.mk (by omega) (by omega) ?_ | refine IdxC.mk (by omega) (by omega) ?_ | refine brD (fun _ => ?_) (fun _ => ?_) | refine brND (fun _ => ?_) (fun _ => ?_) | refine brN (fun _ => ?_) (fun _ => ?_) | refine brI (fun _ => ?_) (fun _ => ?_))
  exact ⟨hS.ext, hS.blk 0 rfl⟩
theorem rbcut_ok (k : Int) (hb : Blk w b 171 (encRB R)) : CallC Tryz.prog 116 #[.pointer (some ⟨b, 0, none⟩), .int .i64 k] w fun v w' => v = .int .i64 ((if k < 0 then 2 else if R.off = true then 7 else 0 : Nat) : Int) ∧ Ext (· = b) w w' ∧ Blk w' b 171 (encRB (if k < 0 ∨ R.off = true then R else ⟨R.data, R.off, k, true⟩)) := by
  refine fn_intro tabOk Tryz.func116 (by kernel_rfl) rfl Tryz.ntmps116 (Nat.le_of_ble_eq_true rfl) ?_
  have hS := (St.start w (· = b)).add (blk_local b _ _) hb (by simp [blk]; exact hb.lt) (by simp)
  (conv => whnf)
  refine brD (fun h1 => ?_) (fun h1 => ?_)
  · repeat' ((conv => whnf); first | refine RetC.mk ?_ | refine NzC.mk (by decide) ?_ | refine RngC.mk (by omega) (by omega) ?_ | refine IdxC.mk (by omega) (by omega) ?_ | refine brD (fun _ => ?_) (fun _ => ?_) | refine brND (fun _ => ?_) (fun _ => ?_) | refine brN (fun _ => ?_) (fun _ => ?_) | refine brI (fun _ => ?_) (fun _ => ?_))
    rw [if_pos h1, if_pos (.inl h1)]
    exact ⟨rfl, hS.ext, hS.blk 0 rfl⟩
  (conv => whnf)
  refine hS.ld 0 rfl rfl ?_
  rw [if_neg h1]
  cases ho : R.off
  · rw [if_neg (by simp), if_neg (by simp [h1])]
    (conv => whnf)
    refine hS.st 0 rfl (Nat.le_of_ble_eq_true rfl) rfl (fun w' hS => ?_)
    (conv => whnf)
    refine hS.st 0 rfl (Nat.le_of_ble_eq_true rfl) rfl (fun w' hS => ?_)
    repeat' ((conv => whnf); first | refine RetC.mk ?_ | refine NzC.mk (by decide) ?_ | refine RngC.mk (by omega) (by omega) ?_ | refine IdxC.mk (by omega) (by omega) ?_ | refine brD (fun _ => ?_) (fun _ => ?_) | refine brND (fun _ => ?_) (fun _ => ?_) | refine brN (fun _ => ?_) (fun _ => ?_) | refine brI (fun _ => ?_) (fun _ => ?_))
    exact ⟨rfl, hS.ext, (hS.blk 0 rfl).to (by rw [← ho]; rfl)⟩
  · rw [if_pos rfl, if_pos (.inr rfl)]
    repeat' ((conv => whnf); first | refine RetC.mk ?_ | refine NzC.mk (by decide) ?_ | refine RngC.mk (by omega) (by omega) ?_ | refine IdxC.mk (by omega) (by omega) ?_ | refine brD (fun _ => ?_) (fun _ => ?_) | refine brND (fun _ => ?_) (fun _ => ?_) | refine brN (fun _ => ?_) (fun _ => ?_) | refine brI (fun _ => ?_) (fun _ => ?_))
    exact ⟨rfl, hS.ext, hS.blk 0 rfl⟩
end
end Go.Proofs.YtoaghhcjlfiflaaGreatDoor

namespace Go.Proofs.YtoaghhcjlfiflaaGreatDoor
open Go Ev

def RBy.cutN (R : RBy) (m : Nat) : Nat := if R.off = true then 0 else if R.bnd = true ∧ R.left < m then R.left.toNat else m
def RBy.offN (R : RBy) (m : Nat) : Bool := if R.off = true then true else if R.bnd = true ∧ R.left < m then true else false
def RBy.write (R : RBy) (p : Nat) (s : List UInt8) : Bool × RBy := (!R.offN s.length, ⟨laid R.data p (s.take (R.cutN s.length)), R.offN s.length, R.left - R.cutN s.length, R.bnd⟩)
section
variable {w : World} {b : Nat} {R : RBy}
theorem rbwrite_ok (p : Nat) (s : List UInt8) (hp : p + s.length ≤ 64) (hl : R.data.length = 64) (hbd : R.bnd = true → 0 ≤ R.left) (hr : -100000000 ≤ R.left ∧ R.left ≤ 9223372036854775807) (hb : Blk w b 171 (encRB R)) :
    CallC Tryz.prog 162 #[.pointer (some ⟨b, 0, none⟩), .int .i64 (p : Int), .string (bs s)] w fun v w' => v = .bool (R.write p s).1 ∧ Ext (· = b) w w' ∧ Blk w' b 171 (encRB (R.write p s).2) := by
  obtain ⟨D, ro, lf, bd⟩ := R
  dsimp only at hl hbd hr
  refine fn_intro tabOk Tryz.func162 (by kernel_rfl) rfl Tryz.ntmps162 (Nat.le_of_ble_eq_true rfl) ?_
  have hS := (St.start w (· = b)).add (blk_local b _ _) hb (by simp [blk]; exact hb.lt) (by simp)
  replace hS : St w (· = b) w [blk b 171 [.string (bs D), .bool ro, .int .i64 lf, .bool bd]] := hS
  unfold RBy.write RBy.cutN RBy.offN
  (conv => whnf)
  rw [bs_size]
  refine hS.ld 0 rfl rfl ?_
  cases ro
  · rw [if_neg Bool.false_ne_true, if_neg Bool.false_ne_true]
    (conv => whnf)
    refine hS.ld 0 rfl rfl ?_
    cases bd
    · (conv => whnf)
      have hc : ¬ (false = true ∧ lf < (s.length : Int)) := by simp
      rw [if_neg hc, if_neg hc]
      have hlaid : D.take p ++ s.take s.length ++ D.drop (p + s.length) = laid D p (s.take s.length) := by
        unfold laid
        rw [List.length_take, Nat.min_eq_left (by omega)]
      refine drawT tabOk mixed [4, 14] (fun q => q = b) (.take 0 (.take 1 (.take 2 (.take 3 (.take 5 (.take 7 (.take 8 (.take 9 (.take 11 (.take 12 (.take 13 (.take 15 (.take 16 (.take 17 (.alt 4 (.take 6 (.take 10 (.alt 14 (.take 18 (.take 19 (.take 20 (.take 21 (.alt 22 .fin .fin))))) .fin))) (.alt 14 (.take 18 (.alt 4 (.take 6 (.take 10 (.take 19 (.take 20 (.take 21 (.alt 22 .fin .fin)))))) .fin)) .fin)))))))))))))))) (by kernel_rfl) ?_
      rintro w1 rfl
      replace hS := hS.drew
      (conv => whnf)
      refine slcTo (b := s.length) Tryz.underlying9 (by omega) (by omega) rfl ?_
      (conv => whnf)
      refine RngC.mk (by omega) (by omega) ?_
      (conv => whnf)
      refine And.intro ?_ ?_
      · (conv => whnf)
        refine hS.ld 0 rfl rfl ?_
        refine KeepC.mk (Ext.refl _ _) ?_
        (conv => whnf)
        refine slcTo (b := p) Tryz.underlying9 rfl (by omega) rfl ?_
        (conv => whnf)
        refine addS (by simp; omega) ?_
        (conv => whnf)
        refine hS.ld 0 rfl rfl ?_
        refine KeepC.mk (Ext.refl _ _) ?_
        (conv => whnf)
        refine slcFrom (b := p + s.length) Tryz.underlying9 (by omega) (by omega) rfl ?_
        (conv => whnf)
        refine addS (by simp; omega) ?_
        (conv => whnf)
        refine hS.stX 0 rfl (Nat.le_of_ble_eq_true rfl) rfl (fun w' hx' hS => ?_)
        refine KeepC.mk hx' ?_
        clear hx'
        replace hS : St w (· = b) w' [blk b 171 [.string (bs (D.take p ++ s.take s.length ++ D.drop (p + s.length))), .bool false, .int .i64 lf, .bool false]] := hS
        rw [hlaid] at hS
        (conv => whnf)
        refine hS.ld 0 rfl rfl ?_
        (conv => whnf)
        refine RngC.mk (by omega) (by omega) ?_
        (conv => whnf)
        refine hS.st 0 rfl (Nat.le_of_ble_eq_true rfl) rfl (fun w' hS => ?_)
        (conv => whnf)
        refine hS.ld 0 rfl rfl ?_
        repeat' ((conv => whnf); first | refine RetC.mk ?_ | refine NzC.mk (by decide) ?_ | refine RngC.mk (by omega) (by omega) ?_ | refine IdxC.mk (by omega) (by omega) ?_ | refine brD (fun _ => ?_) (fun _ => ?_) | refine brND (fun _ => ?_) (fun _ => ?_) | refine brN (fun _ => ?_) (fun _ => ?_) | refine brI (fun _ => ?_) (fun _ => ?_))
        exact ⟨rfl, hS.ext, hS.blk 0 rfl⟩
      · (conv => whnf)
        refine hS.ld 0 rfl rfl ?_
        refine KeepC.mk (Ext.refl _ _) ?_
        (conv => whnf)
        refine slcFrom (b := p + s.length) Tryz.underlying9 (by omega) (by omega) rfl ?_
        (conv => whnf)
        refine hS.ld 0 rfl rfl ?_
        refine KeepC.mk (Ext.refl _ _) ?_
        (conv => whnf)
        refine slcTo (b := p) Tryz.underlying9 rfl (by omega) rfl ?_
        (conv => whnf)
        refine addS (by simp; omega) ?_
        (conv => whnf)
        refine addS (by simp; omega) ?_
        (conv => whnf)
        refine hS.stX 0 rfl (Nat.le_of_ble_eq_true rfl) rfl (fun w' hx' hS => ?_)
        refine KeepC.mk hx' ?_
        clear hx'
        replace hS : St w (· = b) w' [blk b 171 [.string (bs (D.take p ++ s.take s.length ++ D.drop (p + s.length))), .bool false, .int .i64 lf, .bool false]] := hS
        rw [hlaid] at hS
        (conv => whnf)
        refine hS.ld 0 rfl rfl ?_
        (conv => whnf)
        refine RngC.mk (by omega) (by omega) ?_
        (conv => whnf)
        refine hS.st 0 rfl (Nat.le_of_ble_eq_true rfl) rfl (fun w' hS => ?_)
        (conv => whnf)
        refine hS.ld 0 rfl rfl ?_
        repeat' ((conv => whnf); first | refine RetC.mk ?_ | refine NzC.mk (by decide) ?_ | refine RngC.mk (by omega) (by omega) ?_ | refine IdxC.mk (by omega) (by omega) ?_ | refine brD (fun _ => ?_) (fun _ => ?_) | refine brND (fun _ => ?_) (fun _ => ?_) | refine brN (fun _ => ?_) (fun _ => ?_) | refine brI (fun _ => ?_) (fun _ => ?_))
        exact ⟨rfl, hS.ext, hS.blk 0 rfl⟩
    · have hb0 := hbd rfl
      (conv => whnf)
      refine hS.ld 0 rfl rfl ?_
      (conv => whnf)
      refine brD (fun h1 => ?_) (fun h1 => ?_)
      · have hc : true = true ∧ lf < (s.length : Int) := ⟨rfl, h1⟩
        rw [if_pos hc, if_pos hc]
        obtain ⟨m, rfl⟩ : ∃ m : Nat, lf = m := ⟨lf.toNat, by omega⟩
        simp only [Int.toNat_natCast]
        (conv => whnf)
        refine hS.ld 0 rfl rfl ?_
        (conv => whnf)
        refine hS.st 0 rfl (Nat.le_of_ble_eq_true rfl) rfl (fun w' hS => ?_)
        (conv => whnf)
        have hlaid : D.take p ++ s.take m ++ D.drop (p + m) = laid D p (s.take m) := by
          unfold laid
          rw [List.length_take, Nat.min_eq_left (by omega)]
        refine drawT tabOk mixed [4, 14] (fun q => q = b) (.take 0 (.take 1 (.take 2 (.take 3 (.take 5 (.take 7 (.take 8 (.take 9 (.take 11 (.take 12 (.take 13 (.take 15 (.take 16 (.take 17 (.alt 4 (.take 6 (.take 10 (.alt 14 (.take 18 (.take 19 (.take 20 (.take 21 (.alt 22 .fin .fin))))) .fin))) (.alt 14 (.take 18 (.alt 4 (.take 6 (.take 10 (.take 19 (.take 20 (.take 21 (.alt 22 .fin .fin)))))) .fin)) .fin)))))))))))))))) (by kernel_rfl) ?_
        rintro w1 rfl
        replace hS := hS.drew
        (conv => whnf)
        refine slcTo (b := m) Tryz.underlying9 (by omega) (by omega) rfl ?_
        (conv => whnf)
        refine RngC.mk (by omega) (by omega) ?_
        (conv => whnf)
        refine And.intro ?_ ?_
        · (conv => whnf)
          refine hS.ld 0 rfl rfl ?_
          refine KeepC.mk (Ext.refl _ _) ?_
          (conv => whnf)
          refine slcTo (b := p) Tryz.underlying9 rfl (by omega) rfl ?_
          (conv => whnf)
          refine addS (by simp; omega) ?_
          (conv => whnf)
          refine hS.ld 0 rfl rfl ?_
          refine KeepC.mk (Ext.refl _ _) ?_
          (conv => whnf)
          refine slcFrom (b := p + m) Tryz.underlying9 (by omega) (by omega) rfl ?_
          (conv => whnf)
          refine addS (by simp; omega) ?_
          (conv => whnf)
          refine hS.stX 0 rfl (Nat.le_of_ble_eq_true rfl) rfl (fun w' hx' hS => ?_)
          refine KeepC.mk hx' ?_
          clear hx'
          replace hS : St w (· = b) w' [blk b 171 [.string (bs (D.take p ++ s.take m ++ D.drop (p + m))), .bool true, .int .i64 (m : Int), .bool true]] := hS
          rw [hlaid] at hS
          (conv => whnf)
          refine hS.ld 0 rfl rfl ?_
          (conv => whnf)
          refine RngC.mk (by omega) (by omega) ?_
          (conv => whnf)
          refine hS.st 0 rfl (Nat.le_of_ble_eq_true rfl) rfl (fun w' hS => ?_)
          (conv => whnf)
          refine hS.ld 0 rfl rfl ?_
          repeat' ((conv => whnf); first | refine RetC.mk ?_ | refine NzC.mk (by decide) ?_ | refine RngC.mk (by omega) (by omega) ?_ | refine IdxC.mk (by omega) (by omega) ?_ | refine brD (fun _ => ?_) (fun _ => ?_) | refine brND (fun _ => ?_) (fun _ => ?_) | refine brN (fun _ => ?_) (fun _ => ?_) | refine brI (fun _ => ?_) (fun _ => ?_))
          exact ⟨rfl, hS.ext, hS.blk 0 rfl⟩
        · (conv => whnf)
          refine hS.ld 0 rfl rfl ?_
          refine KeepC.mk (Ext.refl _ _) ?_
          (conv => whnf)
          refine slcFrom (b := p + m) Tryz.underlying9 (by omega) (by omega) rfl ?_
          (conv => whnf)
          refine hS.ld 0 rfl rfl ?_
          refine KeepC.mk (Ext.refl _ _) ?_
          (conv => whnf)
          refine slcTo (b := p) Tryz.underlying9 rfl (by omega) rfl ?_
          (conv => whnf)
          refine addS (by simp; omega) ?_
          (conv => whnf)
          refine addS (by simp; omega) ?_
          (conv => whnf)
          refine hS.stX 0 rfl (Nat.le_of_ble_eq_true rfl) rfl (fun w' hx' hS => ?_)
          refine KeepC.mk hx' ?_
          clear hx'
          replace hS : St w (· = b) w' [blk b 171 [.string (bs (D.take p ++ s.take m ++ D.drop (p + m))), .bool true, .int .i64 (m : Int), .bool true]] := hS
          rw [hlaid] at hS
          (conv => whnf)
          refine hS.ld 0 rfl rfl ?_
          (conv => whnf)
          refine RngC.mk (by omega) (by omega) ?_
          (conv => whnf)
          refine hS.st 0 rfl (Nat.le_of_ble_eq_true rfl) rfl (fun w' hS => ?_)
          (conv => whnf)
          refine hS.ld 0 rfl rfl ?_
          repeat' ((conv => whnf); first | refine RetC.mk ?_ | refine NzC.mk (by decide) ?_ | refine RngC.mk (by omega) (by omega) ?_ | refine IdxC.mk (by omega) (by omega) ?_ | refine brD (fun _ => ?_) (fun _ => ?_) | refine brND (fun _ => ?_) (fun _ => ?_) | refine brN (fun _ => ?_) (fun _ => ?_) | refine brI (fun _ => ?_) (fun _ => ?_))
          exact ⟨rfl, hS.ext, hS.blk 0 rfl⟩
      · have hc : ¬ (true = true ∧ lf < (s.length : Int)) := fun h => h1 h.2
        rw [if_neg hc, if_neg hc]
        (conv => whnf)
        have hlaid : D.take p ++ s.take s.length ++ D.drop (p + s.length) = laid D p (s.take s.length) := by
          unfold laid
          rw [List.length_take, Nat.min_eq_left (by omega)]
        refine drawT tabOk mixed [4, 14] (fun q => q = b) (.take 0 (.take 1 (.take 2 (.take 3 (.take 5 (.take 7 (.take 8 (.take 9 (.take 11 (.take 12 (.take 13 (.take 15 (.take 16 (.take 17 (.alt 4 (.take 6 (.take 10 (.alt 14 (.take 18 (.take 19 (.take 20 (.take 21 (.alt 22 .fin .fin))))) .fin))) (.alt 14 (.take 18 (.alt 4 (.take 6 (.take 10 (.take 19 (.take 20 (.take 21 (.alt 22 .fin .fin)))))) .fin)) .fin)))))))))))))))) (by kernel_rfl) ?_
        rintro w1 rfl
        replace hS := hS.drew
        (conv => whnf)
        refine slcTo (b := s.length) Tryz.underlying9 (by omega) (by omega) rfl ?_
        (conv => whnf)
        refine RngC.mk (by omega) (by omega) ?_
        (conv => whnf)
        refine And.intro ?_ ?_
        · (conv => whnf)
          refine hS.ld 0 rfl rfl ?_
          refine KeepC.mk (Ext.refl _ _) ?_
          (conv => whnf)
          refine slcTo (b := p) Tryz.underlying9 rfl (by omega) rfl ?_
          (conv => whnf)
          refine addS (by simp; omega) ?_
          (conv => whnf)
          refine hS.ld 0 rfl rfl ?_
          refine KeepC.mk (Ext.refl _ _) ?_
          (conv => whnf)
          refine slcFrom (b := p + s.length) Tryz.underlying9 (by omega) (by omega) rfl ?_
          (conv => whnf)
          refine addS (by simp; omega) ?_
          (conv => whnf)
          refine hS.stX 0 rfl (Nat.le_of_ble_eq_true rfl) rfl (fun w' hx' hS => ?_)
          refine KeepC.mk hx' ?_
          clear hx'
          replace hS : St w (· = b) w' [blk b 171 [.string (bs (D.take p ++ s.take s.length ++ D.drop (p + s.length))), .bool false, .int .i64 lf, .bool true]] := hS
          rw [hlaid] at hS
          (conv => whnf)
          refine hS.ld 0 rfl rfl ?_
          (conv => whnf)
          refine RngC.mk (by omega) (by omega) ?_
          (conv => whnf)
          refine hS.st 0 rfl (Nat.le_of_ble_eq_true rfl) rfl (fun w' hS => ?_)
          (conv => whnf)
          refine hS.ld 0 rfl rfl ?_
          repeat' ((conv => whnf); first | refine RetC.mk ?_ | refine NzC.mk (by decide) ?_ | refine RngC.mk (by omega) (by omega) ?_ | refine IdxC.mk (by omega) (by omega) ?_ | refine brD (fun _ => ?_) (fun _ => ?_) | refine brND (fun _ => ?_) (fun _ => ?_) | refine brN (fun _ => ?_) (fun _ => ?_) | refine brI (fun _ => ?_) (fun _ => ?_))
          exact ⟨rfl, hS.ext, hS.blk 0 rfl⟩
        · (conv => whnf)
          refine hS.ld 0 rfl rfl ?_
          refine KeepC.mk (Ext.refl _ _) ?_
          (conv => whnf)
          refine slcFrom (b := p + s.length) Tryz.underlying9 (by omega) (by omega) rfl ?_
          (conv => whnf)
          refine hS.ld 0 rfl rfl ?_
          refine KeepC.mk (Ext.refl _ _) ?_
          (conv => whnf)
          refine slcTo (b := p) Tryz.underlying9 rfl (by omega) rfl ?_
          (conv => whnf)
          refine addS (by simp; omega) ?_
          (conv => whnf)
          refine addS (by simp; omega) ?_
          (conv => whnf)
          refine hS.stX 0 rfl (Nat.le_of_ble_eq_true rfl) rfl (fun w' hx' hS => ?_)
          refine KeepC.mk hx' ?_
          clear hx'
          replace hS : St w (· = b) w' [blk b 171 [.string (bs (D.take p ++ s.take s.length ++ D.drop (p + s.length))), .bool false, .int .i64 lf, .bool true]] := hS
          rw [hlaid] at hS
          (conv => whnf)
          refine hS.ld 0 rfl rfl ?_
          (conv => whnf)
          refine RngC.mk (by omega) (by omega) ?_
          (conv => whnf)
          refine hS.st 0 rfl (Nat.le_of_ble_eq_true rfl) rfl (fun w' hS => ?_)
          (conv => whnf)
          refine hS.ld 0 rfl rfl ?_
          repeat' ((conv => whnf); first | refine RetC.mk ?_ | refine NzC.mk (by decide) ?_ | refine RngC.mk (by omega) (by omega) ?_ | refine IdxC.mk (by omega) (by omega) ?_ | refine brD (fun _ => ?_) (fun _ => ?_) | refine brND (fun _ => ?_) (fun _ => ?_) | refine brN (fun _ => ?_) (fun _ => ?_) | refine brI (fun _ => ?_) (fun _ => ?_))
          exact ⟨rfl, hS.ext, hS.blk 0 rfl⟩
  · rw [if_pos rfl, if_pos rfl]
    (conv => whnf)
    have hlaid : D.take p ++ s.take 0 ++ D.drop (p + 0) = laid D p (s.take 0) := by
      unfold laid
      rw [List.length_take, Nat.min_eq_left (by omega)]
    refine drawT tabOk mixed [4, 14] (fun q => q = b) (.take 0 (.take 1 (.take 2 (.take 3 (.take 5 (.take 7 (.take 8 (.take 9 (.take 11 (.take 12 (.take 13 (.take 15 (.take 16 (.take 17 (.alt 4 (.take 6 (.take 10 (.alt 14 (.take 18 (.take 19 (.take 20 (.take 21 (.alt 22 .fin .fin))))) .fin))) (.alt 14 (.take 18 (.alt 4 (.take 6 (.take 10 (.take 19 (.take 20 (.take 21 (.alt 22 .fin .fin)))))) .fin)) .fin)))))))))))))))) (by kernel_rfl) ?_
    rintro w1 rfl
    replace hS := hS.drew
    (conv => whnf)
    refine slcTo (b := 0) Tryz.underlying9 (by omega) (by omega) rfl ?_
    (conv => whnf)
    refine RngC.mk (by omega) (by omega) ?_
    (conv => whnf)
    refine And.intro ?_ ?_
    · (conv => whnf)
      refine hS.ld 0 rfl rfl ?_
      refine KeepC.mk (Ext.refl _ _) ?_
      (conv => whnf)
      refine slcTo (b := p) Tryz.underlying9 rfl (by omega) rfl ?_
      (conv => whnf)
      refine addS (by simp; omega) ?_
      (conv => whnf)
      refine hS.ld 0 rfl rfl ?_
      refine KeepC.mk (Ext.refl _ _) ?_
      (conv => whnf)
      refine slcFrom (b := p + 0) Tryz.underlying9 (by omega) (by omega) rfl ?_
      (conv => whnf)
      refine addS (by simp; omega) ?_
      (conv => whnf)
      refine hS.stX 0 rfl (Nat.le_of_ble_eq_true rfl) rfl (fun w' hx' hS => ?_)
      refine KeepC.mk hx' ?_
      clear hx'
      replace hS : St w (· = b) w' [blk b 171 [.string (bs (D.take p ++ s.take 0 ++ D.drop (p + 0))), .bool true, .int .i64 lf, .bool bd]] := hS
      rw [hlaid] at hS
      (conv => whnf)
      refine hS.ld 0 rfl rfl ?_
      (conv => whnf)
      refine RngC.mk (by omega) (by omega) ?_
      (conv => whnf)
      refine hS.st 0 rfl (Nat.le_of_ble_eq_true rfl) rfl (fun w' hS => ?_)
      (conv => whnf)
      refine hS.ld 0 rfl rfl ?_
      repeat' ((conv => whnf); first | refine RetC.mk ?_ | refine NzC.mk (by decide) ?_ | refine RngC.mk (by omega) (by omega) ?_ | refine IdxC.mk (by omega) (by omega) ?_ | refine brD (fun _ => ?_) (fun _ => ?_) | refine brND (fun _ => ?_) (fun _ => ?_) | refine brN (fun _ => ?_) (fun _ => ?_) | refine brI (fun _ => ?_) (fun _ => ?_))
      exact ⟨rfl, hS.ext, hS.blk 0 rfl⟩
    · (conv => whnf)
      refine hS.ld 0 rfl rfl ?_
      refine KeepC.mk (Ext.refl _ _) ?_
      (conv => whnf)
      refine slcFrom (b := p + 0) Tryz.underlying9 (by omega) (by omega) rfl ?_
      (conv => whnf)
      refine hS.ld 0 rfl rfl ?_
      refine KeepC.mk (Ext.refl _ _) ?_
      (conv => whnf)
      refine slcTo (b := p) Tryz.underlying9 rfl (by omega) rfl ?_
      (conv => whnf)
      refine addS (by simp; omega) ?_
      (conv => whnf)
      refine addS (by simp; omega) ?_
      (conv => whnf)
      refine hS.stX 0 rfl (Nat.le_of_ble_eq_true rfl) rfl (fun w' hx' hS => ?_)
      refine KeepC.mk hx' ?_
      clear hx'
      replace hS : St w (· = b) w' [blk b 171 [.string (bs (D.take p ++ s.take 0 ++ D.drop (p + 0))), .bool true, .int .i64 lf, .bool bd]] := hS
      rw [hlaid] at hS
      (conv => whnf)
      refine hS.ld 0 rfl rfl ?_
      (conv => whnf)
      refine RngC.mk (by omega) (by omega) ?_
      (conv => whnf)
      refine hS.st 0 rfl (Nat.le_of_ble_eq_true rfl) rfl (fun w' hS => ?_)
      (conv => whnf)
      refine hS.ld 0 rfl rfl ?_
      repeat' ((conv => whnf); first | refine RetC.mk ?_ | refine NzC.mk (by decide) ?_ | refine RngC.mk (by omega) (by omega) ?_ | refine IdxC.mk (by omega) (by omega) ?_ | refine brD (fun _ => ?_) (fun _ => ?_) | refine brND (fun _ => ?_) (fun _ => ?_) | refine brN (fun _ => ?_) (fun _ => ?_) | refine brI (fun _ => ?_) (fun _ => ?_))
      exact ⟨rfl, hS.ext, hS.blk 0 rfl⟩
end
end Go.Proofs.YtoaghhcjlfiflaaGreatDoor

namespace Go.Proofs.YtoaghhcjlfiflaaGreatDoor
open Go Ev

theorem openN_par (d : List UInt8) {k : Nat} (hk : k < 2) (h : recN d k % 2 = k) (h1 : 1 ≤ recN d k) : (openN d k).num ≠ recN d k := by
  have : k = 0 ∨ k = 1 := by omega
  rcases this with rfl | rfl
  · simp [openN]
    omega
  · by_cases hf : fullK d 0 ∧ recN d 0 > (openN d 0).num
    · rw [show openN d 1 = ⟨recN d 0, recE d 0, recL d 0, false⟩ from if_pos hf]
      have := hf.1.2.1
      dsimp only
      omega
    · rw [show openN d 1 = ⟨0, 0, 0, false⟩ from if_neg hf]
      dsimp only
      omega
section
variable {w : World} {b c : Nat} {R : RBy}
theorem ropen_ok (hB : Blk w b 171 (encRB R)) (hl : R.data.length = 64) : CallC Tryz.prog 108 #[.pointer (some ⟨b, 0, none⟩)] w fun v w' => ∃ c, v = .pointer (some ⟨c, 0, none⟩) ∧ w.heap.size ≤ c ∧ Ext No w w' ∧ Blk w' c 175 (encCl b (openS R.data)) := by
  refine fn_intro tabOk Tryz.func108 (by kernel_rfl) rfl Tryz.ntmps108 (Nat.le_of_ble_eq_true rfl) ?_
  have hS := St.start w No
  (conv => whnf)
  refine hS.new (fun c w' hc hS => ?_)
  (conv => whnf)
  refine loopR tabOk (fun σ w' q => ∃ k : Nat, σ = [(4, .int .i64 k), (3, .pointer (some ⟨c, 0, none⟩)), (0, .pointer (some ⟨b, 0, none⟩))] ∧ q = 2 - k ∧ k ≤ 2 ∧ St w No w' [blk c 175 (encCl b (openN R.data k))])
    (σ' := [(4, .int .i64 ((0 : Nat) : Int)), (3, .pointer (some ⟨c, 0, none⟩)), (0, .pointer (some ⟨b, 0, none⟩))]) (n := 2) ⟨rfl, rfl, rfl, trivial⟩ ⟨0, rfl, rfl, Nat.zero_le _, hS⟩ ?_
  clear hS
  rintro _ w1 q ⟨k, rfl, rfl, hk, hS⟩
  (conv => whnf)
  refine brD (fun h3 => ?_) (fun h3 => ?_)
  · have hk2 : k < 2 := by omega
    have hrl := recK_len hl hk2
    have n1 := recN_lt R.data k
    have n2 := recE_lt R.data k
    have n3 := recL_lt R.data k
    have hst : openN R.data (k + 1) = openK R.data k (openN R.data k) := rfl
    have hpar := openN_par R.data hk2
    (conv => whnf)
    refine hS.ldr (hB.cell 0) id ?_
    (conv => whnf)
    refine RngC.mk (by omega) (by omega) ?_
    (conv => whnf)
    refine RngC.mk (by omega) (by omega) ?_
    (conv => whnf)
    refine RngC.mk (by omega) (by omega) ?_
    (conv => whnf)
    refine slcS (a := k * 20) (b := k * 20 + 17) (r := recK R.data k) Tryz.underlying9 (by omega) (by omega) (by omega) (by omega) (by unfold recK; congr 1; omega) ?_
    (conv => whnf)
    refine slcTo (b := 4) Tryz.underlying9 rfl (by omega) rfl ?_
    (conv => whnf)
    refine (rvalue_ok ((recK R.data k).take 4) (by rw [List.length_take]; omega) _).mono ?_
    rintro v w2 ⟨rfl, hx1⟩
    replace hS := hS.no hx1
    clear hx1
    rw [show valB ((recK R.data k).take 4) = recN R.data k from rfl]
    have hmod : (recN R.data k : Int).tmod 2 = ((recN R.data k % 2 : Nat) : Int) := by rw [Int.tmod_eq_emod_of_nonneg (by omega)]; omega
    have hf : fullK R.data k ↔ (1 ≤ recN R.data k ∧ recN R.data k % 2 = k ∧ bodyB (recN R.data k) (recE R.data k) (recL R.data k) ++ [165] = recK R.data k) := Iff.rfl
    have hok : openK R.data k (openN R.data k) = if fullK R.data k ∧ recN R.data k > (openN R.data k).num then ⟨recN R.data k, recE R.data k, recL R.data k, (openN R.data k).dead⟩ else openN R.data k := rfl
    (conv => whnf)
    refine brD (fun h4 => ?_) (fun h4 => ?_)
    · skip
      rw [hok, if_neg (fun h => by have := (hf.1 h.1).1; omega)] at hst
      (conv => whnf)
      refine RngC.mk (by omega) (by omega) ?_
      (conv => whnf)
      refine LoopE.mk ⟨_, [(4, .int .i64 ((k + 1 : Nat) : Int)), (3, _), (0, _)], ?_, ⟨rfl, rfl, rfl, trivial⟩, ⟨k + 1, rfl, rfl, by omega, by rw [hst]; exact hS⟩⟩
      omega
    (conv => whnf)
    refine NzC.mk (by decide) ?_
    rw [hmod]
    (conv => whnf)
    refine brND (fun h5 => ?_) (fun h5 => ?_)
    · skip
      rw [hok, if_neg (fun h => h5 (by have := (hf.1 h.1).2.1; omega))] at hst
      (conv => whnf)
      refine RngC.mk (by omega) (by omega) ?_
      (conv => whnf)
      refine LoopE.mk ⟨_, [(4, .int .i64 ((k + 1 : Nat) : Int)), (3, _), (0, _)], ?_, ⟨rfl, rfl, rfl, trivial⟩, ⟨k + 1, rfl, rfl, by omega, by rw [hst]; exact hS⟩⟩
      omega
    (conv => whnf)
    refine hS.ld 0 rfl rfl ?_
    (conv => whnf)
    refine brD (fun h6 => ?_) (fun h6 => ?_)
    · skip
      rw [hok, if_neg (fun h => by have := h.2; omega)] at hst
      (conv => whnf)
      refine RngC.mk (by omega) (by omega) ?_
      (conv => whnf)
      refine LoopE.mk ⟨_, [(4, .int .i64 ((k + 1 : Nat) : Int)), (3, _), (0, _)], ?_, ⟨rfl, rfl, rfl, trivial⟩, ⟨k + 1, rfl, rfl, by omega, by rw [hst]; exact hS⟩⟩
      omega
    have hgt : recN R.data k > (openN R.data k).num := by
      have := hpar (by omega) (by omega)
      omega
    (conv => whnf)
    (refine drawS tabOk mixed [] (No) [0, 1, 2, 4, 5, 10, 3, 6, 7, 8, 9, 11] (by kernel_rfl) ?_; rintro w1 rfl; replace hS := hS.drew)
    (conv => whnf)
    refine slcS (a := 4) (b := 8) Tryz.underlying9 rfl rfl (by omega) (by omega) rfl ?_
    (conv => whnf)
    refine slcS (a := 8) (b := 12) Tryz.underlying9 rfl rfl (by omega) (by omega) rfl ?_
    (conv => whnf)
    refine (rvalue_ok (((recK R.data k).drop 4).take (8 - 4)) (by rw [List.length_take]; omega) _).mono ?_
    rintro v w3 ⟨rfl, hx2⟩
    replace hS := hS.no hx2
    refine KeepC.mk hx2 ?_
    (conv => whnf)
    refine (rvalue_ok (((recK R.data k).drop 8).take (12 - 8)) (by rw [List.length_take]; omega) _).mono ?_
    rintro v w4 ⟨rfl, hx3⟩
    replace hS := hS.no hx3
    refine KeepC.mk (hx2.trans hx3) ?_
    rw [show valB (((recK R.data k).drop 4).take (8 - 4)) = recE R.data k from rfl, show valB (((recK R.data k).drop 8).take (12 - 8)) = recL R.data k from rfl]
    (conv => whnf)
    refine (rbody_ok (recN R.data k) (recE R.data k) (recL R.data k) (by omega) (by omega) (by omega) _).mono ?_
    rintro v w5 ⟨rfl, hx4⟩
    replace hS := hS.no hx4
    refine KeepC.mk ((hx2.trans hx3).trans hx4) ?_
    (conv => whnf)
    refine (rbyte_ok 165 (by omega) _).mono ?_
    rintro v w6 ⟨rfl, hx5⟩
    replace hS := hS.no hx5
    refine KeepC.mk (((hx2.trans hx3).trans hx4).trans hx5) ?_
    clear hx2 hx3 hx4 hx5
    (conv => whnf)
    refine addS (by rw [bodyB_len]; simp) ?_
    (conv => whnf)
    refine eqS2 ?_
    (conv => whnf)
    refine brD (fun h7 => ?_) (fun h7 => ?_)
    · rw [hok, if_pos ⟨hf.2 ⟨by omega, by omega, h7⟩, hgt⟩] at hst
      (conv => whnf)
      refine hS.st 0 rfl (Nat.le_of_ble_eq_true rfl) rfl (fun w' hS => ?_)
      (conv => whnf)
      refine slcS (a := 4) (b := 8) Tryz.underlying9 rfl rfl (by omega) (by omega) rfl ?_
      (conv => whnf)
      refine (rvalue_ok (((recK R.data k).drop 4).take (8 - 4)) (by rw [List.length_take]; omega) _).mono ?_
      rintro v w7 ⟨rfl, hx2⟩
      replace hS := hS.no hx2
      clear hx2
      rw [show valB (((recK R.data k).drop 4).take (8 - 4)) = recE R.data k from rfl]
      (conv => whnf)
      refine hS.st 0 rfl (Nat.le_of_ble_eq_true rfl) rfl (fun w' hS => ?_)
      (conv => whnf)
      refine slcS (a := 8) (b := 12) Tryz.underlying9 rfl rfl (by omega) (by omega) rfl ?_
      (conv => whnf)
      refine (rvalue_ok (((recK R.data k).drop 8).take (12 - 8)) (by rw [List.length_take]; omega) _).mono ?_
      rintro v w8 ⟨rfl, hx3⟩
      replace hS := hS.no hx3
      clear hx3
      rw [show valB (((recK R.data k).drop 8).take (12 - 8)) = recL R.data k from rfl]
      (conv => whnf)
      refine hS.st 0 rfl (Nat.le_of_ble_eq_true rfl) rfl (fun w' hS => ?_)
      replace hS : St w No w' [blk c 175 (encCl b ⟨recN R.data k, recE R.data k, recL R.data k, (openN R.data k).dead⟩)] := hS
      rw [← hst] at hS
      (conv => whnf)
      refine RngC.mk (by omega) (by omega) ?_
      (conv => whnf)
      refine LoopE.mk ⟨_, [(4, .int .i64 ((k + 1 : Nat) : Int)), (3, _), (0, _)], ?_, ⟨rfl, rfl, rfl, trivial⟩, ⟨k + 1, rfl, rfl, by omega, hS⟩⟩
      omega
    · skip
      rw [hok, if_neg (fun h => h7 (hf.1 h.1).2.2)] at hst
      (conv => whnf)
      refine RngC.mk (by omega) (by omega) ?_
      (conv => whnf)
      refine LoopE.mk ⟨_, [(4, .int .i64 ((k + 1 : Nat) : Int)), (3, _), (0, _)], ?_, ⟨rfl, rfl, rfl, trivial⟩, ⟨k + 1, rfl, rfl, by omega, by rw [hst]; exact hS⟩⟩
      omega
  · obtain rfl : k = 2 := by omega
    repeat' ((conv => whnf); first | refine RetC.mk ?_ | refine NzC.mk (by decide) ?_ | refine RngC.mk (by omega) (by omega) ?_ | refine IdxC.mk (by omega) (by omega) ?_ | refine brD (fun _ => ?_) (fun _ => ?_) | refine brND (fun _ => ?_) (fun _ => ?_) | refine brN (fun _ => ?_) (fun _ => ?_) | refine brI (fun _ => ?_) (fun _ => ?_))
    exact ⟨c, rfl, hc, hS.ext, hS.blk 0 rfl⟩
end
end Go.Proofs.YtoaghhcjlfiflaaGreatDoor

namespace Go.Proofs.YtoaghhcjlfiflaaGreatDoor
open Go Ev

theorem alike_write {R : RBy} {B : BytS} {p : Nat} {s : List UInt8} (h : Alike R B) (hp : p + s.length ≤ B.data.length) (hs : s ≠ []) : (R.write p s).1 = (B.write p s).1 ∧ Alike (R.write p s).2 (B.write p s).2 := by
  obtain ⟨rd, ro, rl, rb⟩ := R
  obtain ⟨bd, bo, bl⟩ := B
  obtain ⟨h1, h2, h3, h4⟩ := h
  dsimp only at h1 h2 h3 h4 hp
  subst h1 h2
  unfold RBy.write RBy.cutN RBy.offN
  dsimp only
  cases ro
  · cases rb
    · obtain rfl := h4 rfl
      rw [write_free s rd p hp]
      simp only [if_neg Bool.false_ne_true, Bool.false_eq_true, false_and, if_false, List.take_length]
      exact ⟨rfl, rfl, rfl, fun h => absurd h (by simp), fun _ => rfl⟩
    · obtain ⟨h5, h6⟩ := h3 rfl
      obtain ⟨n, rfl⟩ := Int.eq_ofNat_of_zero_le h6
      subst h5
      rw [write_bnd s rd p n hp]
      by_cases hn : s.length ≤ n
      · rw [if_pos hn]
        have hc : ¬ (true = true ∧ (n : Int) < (s.length : Int)) := by simp; omega
        have e1 : (if true = true ∧ (n : Int) < (s.length : Int) then (n : Int).toNat else s.length) = s.length := if_neg hc
        have e2 : (if true = true ∧ (n : Int) < (s.length : Int) then true else false) = false := if_neg hc
        rw [if_neg Bool.false_ne_true, if_neg Bool.false_ne_true, e1, e2, List.take_length]
        exact ⟨rfl, rfl, rfl, fun _ => ⟨rfl, by dsimp only; omega⟩, fun h => absurd h (by simp)⟩
      · rw [if_neg hn]
        have hc : true = true ∧ (n : Int) < (s.length : Int) := ⟨rfl, by omega⟩
        have e1 : (if true = true ∧ (n : Int) < (s.length : Int) then (n : Int).toNat else s.length) = n := (if_pos hc).trans (Int.toNat_natCast n)
        have e2 : (if true = true ∧ (n : Int) < (s.length : Int) then true else false) = true := if_pos hc
        rw [if_neg Bool.false_ne_true, if_neg Bool.false_ne_true, e1, e2]
        exact ⟨rfl, rfl, rfl, fun _ => ⟨by dsimp only; omega, by dsimp only; omega⟩, fun h => absurd h (by simp)⟩
  · rw [write_off hs]
    simp only [if_true, List.take_zero, laid_nil]
    refine ⟨rfl, rfl, rfl, fun h => ?_, fun h => h4 h⟩
    have := h3 h
    exact ⟨by dsimp only; omega, this.2⟩
theorem left_write (R : RBy) (p : Nat) (s : List UInt8) (hbd : R.bnd = true → 0 ≤ R.left) : R.left - s.length ≤ (R.write p s).2.left ∧ (R.write p s).2.left ≤ R.left ∧ ((R.write p s).2.bnd = true → 0 ≤ (R.write p s).2.left) ∧ (R.write p s).2.bnd = R.bnd := by
  unfold RBy.write RBy.cutN
  dsimp only
  have hcut : ∀ m : Nat, (if R.off = true then 0 else if R.bnd = true ∧ R.left < (m : Int) then R.left.toNat else m) ≤ m ∧ (R.bnd = true → ((if R.off = true then 0 else if R.bnd = true ∧ R.left < (m : Int) then R.left.toNat else m : Nat) : Int) ≤ R.left) := by
    intro m
    split
    · exact ⟨by omega, fun h => by have := hbd h; omega⟩
    · split
      · rename_i h
        have := hbd h.1
        exact ⟨by omega, fun _ => by omega⟩
      · rename_i h
        exact ⟨by omega, fun hb => by
          have : ¬ R.left < (m : Int) := fun h2 => h ⟨hb, h2⟩
          omega⟩
  have := hcut s.length
  refine ⟨by omega, by omega, fun h => ?_, rfl⟩
  have := this.2 h
  omega
structure ROk (R : RBy) (k : Nat) : Prop where
  len : R.data.length = 64
  bnd : R.bnd = true → 0 ≤ R.left
  lo : -(k : Int) ≤ R.left
  hi : R.left ≤ 9223372036854775807
theorem ROk.write {R : RBy} {k : Nat} (h : ROk R k) (p : Nat) (s : List UInt8) (hp : p + s.length ≤ 64) : ROk (R.write p s).2 (k + s.length) := by
  obtain ⟨h1, h2, h3, h4⟩ := left_write R p s h.bnd
  have hl := h.lo
  have hh := h.hi
  refine ⟨?_, h3, by omega, by omega⟩
  unfold RBy.write
  dsimp only
  rw [laid_len (by rw [List.length_take, h.len]; omega), h.len]
theorem ROk.le {R : RBy} {k m : Nat} (h : ROk R k) (hm : k ≤ m) : ROk R m := ⟨h.len, h.bnd, by have := h.lo; omega, h.hi⟩

section
variable {w : World} {b c : Nat} {B : BytS} {R : RBy}
theorem rcput_ok {C : CelS} {k : Nat} (e l : Int) (hC : Blk w c 175 (encCl b C)) (hB : Blk w b 171 (encRB R)) (hA : Alike R B) (hO : BOk B) (hR : ROk R k) (hk : k ≤ 50000000) (hN : C.num < 4294967296) :
    CallC Tryz.prog 109 #[.pointer (some ⟨c, 0, none⟩), .int .i64 e, .int .i64 l] w fun v w' => v = .int .i64 ((C.put B e l).1 : Nat) ∧ Ext (fun d => d = b ∨ d = c) w w' ∧ ∃ R', Alike R' (C.put B e l).2.1 ∧ ROk R' (k + 18) ∧ Blk w' b 171 (encRB R') ∧ Blk w' c 175 (encCl b (C.put B e l).2.2) := by
  have hcb : ¬ c = b := Blk.ne hC hB (by decide)
  unfold CelS.put
  refine fn_intro tabOk Tryz.func109 (by kernel_rfl) rfl Tryz.ntmps109 (Nat.le_of_ble_eq_true rfl) ?_
  have hS := (St.start w (fun d => d = b ∨ d = c)).add (blk_local b _ _) hB (by simp [blk]; exact hB.lt) (by simp)
  have hS := hS.add (blk_local c _ _) hC (by simp [blk]; exact hC.lt) (by simp [blk]; omega)
  (conv => whnf)
  refine hS.ld 1 rfl (o := 4) rfl ?_
  cases hd : C.dead
  · rw [if_neg Bool.false_ne_true]
    by_cases hr : e < 0 ∨ e > 1073741824 ∨ l < 0 ∨ l > 1073741824
    · rw [if_pos hr]
      (conv => whnf)
      refine brD (fun h1 => ?_) (fun h1 => ?_)
      · skip
        repeat' ((conv => whnf); first | refine RetC.mk ?_ | refine NzC.mk (by decide) ?_ | refine RngC.mk (by omega) (by omega) ?_ | refine IdxC.mk (by omega) (by omega) ?_ | refine brD (fun _ => ?_) (fun _ => ?_) | refine brND (fun _ => ?_) (fun _ => ?_) | refine brN (fun _ => ?_) (fun _ => ?_) | refine brI (fun _ => ?_) (fun _ => ?_))
        exact ⟨rfl, hS.ext, R, hA, hR.le (by omega), hS.blk 0 rfl, hS.blk 1 rfl⟩
      (conv => whnf)
      refine brD (fun h2 => ?_) (fun h2 => ?_)
      · skip
        repeat' ((conv => whnf); first | refine RetC.mk ?_ | refine NzC.mk (by decide) ?_ | refine RngC.mk (by omega) (by omega) ?_ | refine IdxC.mk (by omega) (by omega) ?_ | refine brD (fun _ => ?_) (fun _ => ?_) | refine brND (fun _ => ?_) (fun _ => ?_) | refine brN (fun _ => ?_) (fun _ => ?_) | refine brI (fun _ => ?_) (fun _ => ?_))
        exact ⟨rfl, hS.ext, R, hA, hR.le (by omega), hS.blk 0 rfl, hS.blk 1 rfl⟩
      (conv => whnf)
      refine brD (fun h3 => ?_) (fun h3 => ?_)
      · skip
        repeat' ((conv => whnf); first | refine RetC.mk ?_ | refine NzC.mk (by decide) ?_ | refine RngC.mk (by omega) (by omega) ?_ | refine IdxC.mk (by omega) (by omega) ?_ | refine brD (fun _ => ?_) (fun _ => ?_) | refine brND (fun _ => ?_) (fun _ => ?_) | refine brN (fun _ => ?_) (fun _ => ?_) | refine brI (fun _ => ?_) (fun _ => ?_))
        exact ⟨rfl, hS.ext, R, hA, hR.le (by omega), hS.blk 0 rfl, hS.blk 1 rfl⟩
      (conv => whnf)
      refine brD (fun h4 => ?_) (fun h4 => absurd hr (by omega))
      repeat' ((conv => whnf); first | refine RetC.mk ?_ | refine NzC.mk (by decide) ?_ | refine RngC.mk (by omega) (by omega) ?_ | refine IdxC.mk (by omega) (by omega) ?_ | refine brD (fun _ => ?_) (fun _ => ?_) | refine brND (fun _ => ?_) (fun _ => ?_) | refine brN (fun _ => ?_) (fun _ => ?_) | refine brI (fun _ => ?_) (fun _ => ?_))
      exact ⟨rfl, hS.ext, R, hA, hR.le (by omega), hS.blk 0 rfl, hS.blk 1 rfl⟩
    rw [if_neg hr]
    (conv => whnf)
    refine brD (fun h => absurd h (by omega)) (fun h1 => ?_)
    (conv => whnf)
    refine brD (fun h => absurd h (by omega)) (fun h2 => ?_)
    (conv => whnf)
    refine brD (fun h => absurd h (by omega)) (fun h3 => ?_)
    (conv => whnf)
    refine brD (fun h => absurd h (by omega)) (fun h4 => ?_)
    obtain ⟨e, rfl⟩ := Int.eq_ofNat_of_zero_le (show 0 ≤ e by omega)
    obtain ⟨l, rfl⟩ := Int.eq_ofNat_of_zero_le (show 0 ≤ l by omega)
    simp only [Int.toNat_natCast]
    (conv => whnf)
    refine hS.ld 1 rfl (o := 2) rfl ?_
    by_cases ho : (e : Int) < C.ep ∨ (l : Int) < C.li
    · rw [if_pos ho]
      (conv => whnf)
      refine brD (fun h5 => ?_) (fun h5 => ?_)
      · skip
        repeat' ((conv => whnf); first | refine RetC.mk ?_ | refine NzC.mk (by decide) ?_ | refine RngC.mk (by omega) (by omega) ?_ | refine IdxC.mk (by omega) (by omega) ?_ | refine brD (fun _ => ?_) (fun _ => ?_) | refine brND (fun _ => ?_) (fun _ => ?_) | refine brN (fun _ => ?_) (fun _ => ?_) | refine brI (fun _ => ?_) (fun _ => ?_))
        exact ⟨rfl, hS.ext, R, hA, hR.le (by omega), hS.blk 0 rfl, hS.blk 1 rfl⟩
      (conv => whnf)
      refine hS.ld 1 rfl (o := 3) rfl ?_
      (conv => whnf)
      refine brD (fun h6 => ?_) (fun h6 => absurd ho (by omega))
      repeat' ((conv => whnf); first | refine RetC.mk ?_ | refine NzC.mk (by decide) ?_ | refine RngC.mk (by omega) (by omega) ?_ | refine IdxC.mk (by omega) (by omega) ?_ | refine brD (fun _ => ?_) (fun _ => ?_) | refine brND (fun _ => ?_) (fun _ => ?_) | refine brN (fun _ => ?_) (fun _ => ?_) | refine brI (fun _ => ?_) (fun _ => ?_))
      exact ⟨rfl, hS.ext, R, hA, hR.le (by omega), hS.blk 0 rfl, hS.blk 1 rfl⟩
    rw [if_neg ho]
    (conv => whnf)
    refine brD (fun h => absurd h (by omega)) (fun h5 => ?_)
    (conv => whnf)
    refine hS.ld 1 rfl (o := 3) rfl ?_
    (conv => whnf)
    refine brD (fun h => absurd h (by omega)) (fun h6 => ?_)
    (conv => whnf)
    refine hS.ld 1 rfl (o := 1) rfl ?_
    (conv => whnf)
    refine RngC.mk (by omega) (by omega) ?_
    rw [show (C.num : Int) + 1 = ((C.num + 1 : Nat) : Int) by omega]
    (conv => whnf)
    refine brD (fun h7 => ?_) (fun h7 => ?_)
    · rw [if_pos (show C.num + 1 ≥ 4294967296 by omega)]
      repeat' ((conv => whnf); first | refine RetC.mk ?_ | refine NzC.mk (by decide) ?_ | refine RngC.mk (by omega) (by omega) ?_ | refine IdxC.mk (by omega) (by omega) ?_ | refine brD (fun _ => ?_) (fun _ => ?_) | refine brND (fun _ => ?_) (fun _ => ?_) | refine brN (fun _ => ?_) (fun _ => ?_) | refine brI (fun _ => ?_) (fun _ => ?_))
      exact ⟨rfl, hS.ext, R, hA, hR.le (by omega), hS.blk 0 rfl, hS.blk 1 rfl⟩
    rw [if_neg (show ¬ C.num + 1 ≥ 4294967296 by omega)]
    have hmod : ((C.num + 1 : Nat) : Int).tmod 2 = (((C.num + 1) % 2 : Nat) : Int) := by rw [Int.tmod_eq_emod_of_nonneg (by omega)]; omega
    have hn2 : (C.num + 1) % 2 < 2 := Nat.mod_lt _ (by omega)
    have hbl := bodyB_len (C.num + 1) e l
    unfold cwrite
    have h20 : ((C.num + 1 : Nat) : Int).tmod 2 * 20 = (((C.num + 1) % 2 * 20 : Nat) : Int) := by rw [hmod]; omega
    have h36 : (C.num + 1) % 2 * 20 ≤ 20 := by omega
    generalize (C.num + 1) % 2 * 20 = p at h20 h36
    have hpp : (p : Int) + 16 = ((p + 16 : Nat) : Int) := by omega
    repeat' ((conv => whnf); first | refine RetC.mk ?_ | refine NzC.mk (by decide) ?_ | refine RngC.mk (by omega) (by omega) ?_ | refine IdxC.mk (by omega) (by omega) ?_ | refine RngC.mk (by omega) (by omega) ?_ | refine brD (fun _ => ?_) (fun _ => ?_) | refine brND (fun _ => ?_) (fun _ => ?_) | refine brN (fun _ => ?_) (fun _ => ?_) | refine brI (fun _ => ?_) (fun _ => ?_))
    rw [h20]
    (conv => whnf)
    refine hS.ld 1 rfl (o := 0) rfl ?_
    (conv => whnf)
    refine hS.ld 0 rfl rfl ?_
    rw [hA.off]
    cases hoff : B.off
    · rw [if_neg Bool.false_ne_true]
      (conv => whnf)
      refine hS.ld 1 rfl (o := 0) rfl ?_
      (conv => whnf)
      refine hS.ld 0 rfl rfl ?_
      rw [hA.data]
      (conv => whnf)
      refine RngC.mk (by omega) (by omega) ?_
      rw [hpp]
      obtain ⟨x, hx⟩ : ∃ x, B.data[p + 16]? = some x := ⟨_, List.getElem?_eq_getElem (by have := hO.len; omega)⟩
      have hmk : mark B (p + 16) = if x = 0 then (true, B) else B.write (p + 16) [0] := by unfold mark; rw [hx]
      (conv => whnf)
      refine idxS Tryz.underlying9 rfl hx ?_
      (conv => whnf)
      refine neC ?_
      (conv => whnf)
      refine brND (fun h1 => ?_) (fun h1 => ?_)
      · rw [if_neg (by rintro rfl; exact h1 rfl)] at hmk
        rw [hmk]
        have hO1 := hO.write [0] (p + 16)
        have hA1 := alike_write (p := p + 16) (s := [UInt8.ofNat 0]) hA (by have := hO.len; simp; omega) (by simp)
        have hR1 := hR.write (p + 16) [UInt8.ofNat 0] (by simp; omega)
        (conv => whnf)
        (refine drawS tabOk mixed [] ((· = b)) [0, 1, 2, 3, 4, 5, 6, 7, 8] (by kernel_rfl) ?_; rintro w1 rfl; replace hS := hS.drew)
        repeat' ((conv => whnf); first | refine RetC.mk ?_ | refine NzC.mk (by decide) ?_ | refine RngC.mk (by omega) (by omega) ?_ | refine IdxC.mk (by omega) (by omega) ?_ | refine hS.ldF 1 rfl rfl hcb ?_ | refine brD (fun _ => ?_) (fun _ => ?_) | refine brND (fun _ => ?_) (fun _ => ?_) | refine brN (fun _ => ?_) (fun _ => ?_) | refine brI (fun _ => ?_) (fun _ => ?_))
        refine (rbyte_ok 0 (by omega) _).mono ?_
        rintro v w2 ⟨rfl, hx1⟩
        replace hS := hS.no hx1
        refine KeepC.mk hx1.of_no ?_
        (conv => whnf)
        rw [hpp]
        refine (rbwrite_ok (p + 16) [UInt8.ofNat 0] (by first | omega | (simp; omega)) hR.len hR.bnd ⟨by have := hR.lo; omega, hR.hi⟩ (hS.blk 0 rfl)).mono ?_
        rintro v w' ⟨rfl, hx', hB'⟩
        replace hS := hS.upd 0 rfl hx' (fun c hc => by subst hc; exact List.mem_singleton.2 rfl) (blk_local _ _ _) hB' (fun c hc => .inl hc)
        refine KeepC.mk (hx1.of_no.trans hx') ?_
        clear hx' hB' hx1
        generalize RBy.write R (p + 16) [UInt8.ofNat 0] = Q at hS hA1 hR1 ⊢
        obtain ⟨ok0, R1⟩ := Q
        rw [show ([0] : List UInt8) = [UInt8.ofNat 0] from rfl] at hO1 ⊢
        generalize BytS.write B (p + 16) [UInt8.ofNat 0] = Q at hA1 hO1 ⊢
        obtain ⟨ok1, B1⟩ := Q
        obtain ⟨he1, hA1⟩ := hA1
        dsimp only at he1 hA1 hR1 hO1
        subst he1
        have hR1 := hR1.le (show k + [UInt8.ofNat 0].length ≤ k + 1 by simp)
        cases ok0
        · skip
          (conv => whnf)
          refine hS.st 1 rfl (Nat.le_of_ble_eq_true rfl) rfl (fun w' hS => ?_)
          repeat' ((conv => whnf); first | refine RetC.mk ?_ | refine NzC.mk (by decide) ?_ | refine RngC.mk (by omega) (by omega) ?_ | refine IdxC.mk (by omega) (by omega) ?_ | refine brD (fun _ => ?_) (fun _ => ?_) | refine brND (fun _ => ?_) (fun _ => ?_) | refine brN (fun _ => ?_) (fun _ => ?_) | refine brI (fun _ => ?_) (fun _ => ?_))
          exact ⟨rfl, hS.ext, R1, hA1, hR1.le (by omega), hS.blk 0 rfl, hS.blk 1 rfl⟩
        · rw [if_pos rfl]
          (conv => whnf)
          (refine drawS tabOk mixed [] ((· = b)) [0, 1, 2, 3, 4, 5, 6, 7, 8, 9, 10] (by kernel_rfl) ?_; rintro w1 rfl; replace hS := hS.drew)
          repeat' ((conv => whnf); first | refine RetC.mk ?_ | refine NzC.mk (by decide) ?_ | refine RngC.mk (by omega) (by omega) ?_ | refine IdxC.mk (by omega) (by omega) ?_ | refine hS.ldF 1 rfl rfl hcb ?_ | refine brD (fun _ => ?_) (fun _ => ?_) | refine brND (fun _ => ?_) (fun _ => ?_) | refine brN (fun _ => ?_) (fun _ => ?_) | refine brI (fun _ => ?_) (fun _ => ?_))
          refine (rbody_ok (C.num + 1) e l (by omega) (by omega) (by omega) _).mono ?_
          rintro v w2 ⟨rfl, hx1⟩
          replace hS := hS.no hx1
          refine KeepC.mk hx1.of_no ?_
          (conv => whnf)
          have hA2 := alike_write (p := p) (s := bodyB (C.num + 1) e l) hA1 (by have := hO1.len; omega) (by intro h; rw [h] at hbl; simp at hbl)
          have hR2 := hR1.write p (bodyB (C.num + 1) e l) (by omega)
          have hO2 := BOk.write (bodyB (C.num + 1) e l) p hO1
          refine (rbwrite_ok p (bodyB (C.num + 1) e l) (by first | omega | (simp; omega)) hR1.len hR1.bnd ⟨by have := hR1.lo; omega, hR1.hi⟩ (hS.blk 0 rfl)).mono ?_
          rintro v w' ⟨rfl, hx', hB'⟩
          replace hS := hS.upd 0 rfl hx' (fun c hc => by subst hc; exact List.mem_singleton.2 rfl) (blk_local _ _ _) hB' (fun c hc => .inl hc)
          refine KeepC.mk (hx1.of_no.trans hx') ?_
          clear hx' hB' hx1
          rw [hbl] at hR2
          generalize RBy.write R1 p (bodyB (C.num + 1) e l) = Q at hS hA2 hR2 ⊢
          obtain ⟨ok2, R2⟩ := Q
          generalize BytS.write B1 p (bodyB (C.num + 1) e l) = Q at hO2 hA2 ⊢
          obtain ⟨ok3, B2⟩ := Q
          obtain ⟨he1, hA2⟩ := hA2
          dsimp only at he1 hA2 hR2 hO2
          subst he1
          cases ok2
          · skip
            (conv => whnf)
            refine hS.st 1 rfl (Nat.le_of_ble_eq_true rfl) rfl (fun w' hS => ?_)
            repeat' ((conv => whnf); first | refine RetC.mk ?_ | refine NzC.mk (by decide) ?_ | refine RngC.mk (by omega) (by omega) ?_ | refine IdxC.mk (by omega) (by omega) ?_ | refine brD (fun _ => ?_) (fun _ => ?_) | refine brND (fun _ => ?_) (fun _ => ?_) | refine brN (fun _ => ?_) (fun _ => ?_) | refine brI (fun _ => ?_) (fun _ => ?_))
            exact ⟨rfl, hS.ext, R2, hA2, hR2.le (by omega), hS.blk 0 rfl, hS.blk 1 rfl⟩
          · rw [if_pos rfl]
            (conv => whnf)
            (refine drawS tabOk mixed [] ((· = b)) [0, 1, 2, 3, 4, 5, 6, 7, 8] (by kernel_rfl) ?_; rintro w1 rfl; replace hS := hS.drew)
            repeat' ((conv => whnf); first | refine RetC.mk ?_ | refine NzC.mk (by decide) ?_ | refine RngC.mk (by omega) (by omega) ?_ | refine IdxC.mk (by omega) (by omega) ?_ | refine hS.ldF 1 rfl rfl hcb ?_ | refine brD (fun _ => ?_) (fun _ => ?_) | refine brND (fun _ => ?_) (fun _ => ?_) | refine brN (fun _ => ?_) (fun _ => ?_) | refine brI (fun _ => ?_) (fun _ => ?_))
            refine (rbyte_ok 165 (by omega) _).mono ?_
            rintro v w2 ⟨rfl, hx1⟩
            replace hS := hS.no hx1
            refine KeepC.mk hx1.of_no ?_
            (conv => whnf)
            rw [hpp]
            have hA3 := alike_write (p := p + 16) (s := [UInt8.ofNat 165]) hA2 (by have := hO2.len; simp; omega) (by simp)
            have hR3 := hR2.write (p + 16) [UInt8.ofNat 165] (by simp; omega)
            refine (rbwrite_ok (p + 16) [UInt8.ofNat 165] (by first | omega | (simp; omega)) hR2.len hR2.bnd ⟨by have := hR2.lo; omega, hR2.hi⟩ (hS.blk 0 rfl)).mono ?_
            rintro v w' ⟨rfl, hx', hB'⟩
            replace hS := hS.upd 0 rfl hx' (fun c hc => by subst hc; exact List.mem_singleton.2 rfl) (blk_local _ _ _) hB' (fun c hc => .inl hc)
            refine KeepC.mk (hx1.of_no.trans hx') ?_
            clear hx' hB' hx1
            generalize RBy.write R2 (p + 16) [UInt8.ofNat 165] = Q at hS hA3 hR3 ⊢
            obtain ⟨ok4, R3⟩ := Q
            rw [show ([165] : List UInt8) = [UInt8.ofNat 165] from rfl]
            generalize BytS.write B2 (p + 16) [UInt8.ofNat 165] = Q at hA3 ⊢
            obtain ⟨ok5, B3⟩ := Q
            obtain ⟨he1, hA3⟩ := hA3
            dsimp only at he1 hA3 hR3
            subst he1
            cases ok4
            · skip
              (conv => whnf)
              refine hS.st 1 rfl (Nat.le_of_ble_eq_true rfl) rfl (fun w' hS => ?_)
              repeat' ((conv => whnf); first | refine RetC.mk ?_ | refine NzC.mk (by decide) ?_ | refine RngC.mk (by omega) (by omega) ?_ | refine IdxC.mk (by omega) (by omega) ?_ | refine brD (fun _ => ?_) (fun _ => ?_) | refine brND (fun _ => ?_) (fun _ => ?_) | refine brN (fun _ => ?_) (fun _ => ?_) | refine brI (fun _ => ?_) (fun _ => ?_))
              exact ⟨rfl, hS.ext, R3, hA3, hR3.le (by first | omega | (simp; omega) | simp), hS.blk 0 rfl, hS.blk 1 rfl⟩
            · (conv => whnf)
              refine hS.st 1 rfl (Nat.le_of_ble_eq_true rfl) rfl (fun w' hS => ?_)
              (conv => whnf)
              refine hS.st 1 rfl (Nat.le_of_ble_eq_true rfl) rfl (fun w' hS => ?_)
              (conv => whnf)
              refine hS.st 1 rfl (Nat.le_of_ble_eq_true rfl) rfl (fun w' hS => ?_)
              repeat' ((conv => whnf); first | refine RetC.mk ?_ | refine NzC.mk (by decide) ?_ | refine RngC.mk (by omega) (by omega) ?_ | refine IdxC.mk (by omega) (by omega) ?_ | refine brD (fun _ => ?_) (fun _ => ?_) | refine brND (fun _ => ?_) (fun _ => ?_) | refine brN (fun _ => ?_) (fun _ => ?_) | refine brI (fun _ => ?_) (fun _ => ?_))
              exact ⟨rfl, hS.ext, R3, hA3, hR3.le (by first | omega | (simp; omega) | simp), hS.blk 0 rfl, (hS.blk 1 rfl).to (by rw [← hd]; rfl)⟩
      · rw [if_pos (by
          have h2 : x.toNat = 0 := by omega
          exact UInt8.toNat_inj.1 h2)] at hmk
        rw [hmk, if_pos rfl]
        (conv => whnf)
        (refine drawS tabOk mixed [] ((· = b)) [0, 1, 2, 3, 4, 5, 6, 7, 8, 9, 10] (by kernel_rfl) ?_; rintro w1 rfl; replace hS := hS.drew)
        repeat' ((conv => whnf); first | refine RetC.mk ?_ | refine NzC.mk (by decide) ?_ | refine RngC.mk (by omega) (by omega) ?_ | refine IdxC.mk (by omega) (by omega) ?_ | refine hS.ldF 1 rfl rfl hcb ?_ | refine brD (fun _ => ?_) (fun _ => ?_) | refine brND (fun _ => ?_) (fun _ => ?_) | refine brN (fun _ => ?_) (fun _ => ?_) | refine brI (fun _ => ?_) (fun _ => ?_))
        refine (rbody_ok (C.num + 1) e l (by omega) (by omega) (by omega) _).mono ?_
        rintro v w2 ⟨rfl, hx1⟩
        replace hS := hS.no hx1
        refine KeepC.mk hx1.of_no ?_
        (conv => whnf)
        have hA2 := alike_write (p := p) (s := bodyB (C.num + 1) e l) hA (by have := hO.len; omega) (by intro h; rw [h] at hbl; simp at hbl)
        have hR2 := hR.write p (bodyB (C.num + 1) e l) (by omega)
        have hO2 := BOk.write (bodyB (C.num + 1) e l) p hO
        refine (rbwrite_ok p (bodyB (C.num + 1) e l) (by first | omega | (simp; omega)) hR.len hR.bnd ⟨by have := hR.lo; omega, hR.hi⟩ (hS.blk 0 rfl)).mono ?_
        rintro v w' ⟨rfl, hx', hB'⟩
        replace hS := hS.upd 0 rfl hx' (fun c hc => by subst hc; exact List.mem_singleton.2 rfl) (blk_local _ _ _) hB' (fun c hc => .inl hc)
        refine KeepC.mk (hx1.of_no.trans hx') ?_
        clear hx' hB' hx1
        rw [hbl] at hR2
        generalize RBy.write R p (bodyB (C.num + 1) e l) = Q at hS hA2 hR2 ⊢
        obtain ⟨ok2, R2⟩ := Q
        generalize BytS.write B p (bodyB (C.num + 1) e l) = Q at hO2 hA2 ⊢
        obtain ⟨ok3, B2⟩ := Q
        obtain ⟨he1, hA2⟩ := hA2
        dsimp only at he1 hA2 hR2 hO2
        subst he1
        cases ok2
        · skip
          (conv => whnf)
          refine hS.st 1 rfl (Nat.le_of_ble_eq_true rfl) rfl (fun w' hS => ?_)
          repeat' ((conv => whnf); first | refine RetC.mk ?_ | refine NzC.mk (by decide) ?_ | refine RngC.mk (by omega) (by omega) ?_ | refine IdxC.mk (by omega) (by omega) ?_ | refine brD (fun _ => ?_) (fun _ => ?_) | refine brND (fun _ => ?_) (fun _ => ?_) | refine brN (fun _ => ?_) (fun _ => ?_) | refine brI (fun _ => ?_) (fun _ => ?_))
          exact ⟨rfl, hS.ext, R2, hA2, hR2.le (by omega), hS.blk 0 rfl, hS.blk 1 rfl⟩
        · rw [if_pos rfl]
          (conv => whnf)
          (refine drawS tabOk mixed [] ((· = b)) [0, 1, 2, 3, 4, 5, 6, 7, 8] (by kernel_rfl) ?_; rintro w1 rfl; replace hS := hS.drew)
          repeat' ((conv => whnf); first | refine RetC.mk ?_ | refine NzC.mk (by decide) ?_ | refine RngC.mk (by omega) (by omega) ?_ | refine IdxC.mk (by omega) (by omega) ?_ | refine hS.ldF 1 rfl rfl hcb ?_ | refine brD (fun _ => ?_) (fun _ => ?_) | refine brND (fun _ => ?_) (fun _ => ?_) | refine brN (fun _ => ?_) (fun _ => ?_) | refine brI (fun _ => ?_) (fun _ => ?_))
          refine (rbyte_ok 165 (by omega) _).mono ?_
          rintro v w2 ⟨rfl, hx1⟩
          replace hS := hS.no hx1
          refine KeepC.mk hx1.of_no ?_
          (conv => whnf)
          rw [hpp]
          have hA3 := alike_write (p := p + 16) (s := [UInt8.ofNat 165]) hA2 (by have := hO2.len; simp; omega) (by simp)
          have hR3 := hR2.write (p + 16) [UInt8.ofNat 165] (by simp; omega)
          refine (rbwrite_ok (p + 16) [UInt8.ofNat 165] (by first | omega | (simp; omega)) hR2.len hR2.bnd ⟨by have := hR2.lo; omega, hR2.hi⟩ (hS.blk 0 rfl)).mono ?_
          rintro v w' ⟨rfl, hx', hB'⟩
          replace hS := hS.upd 0 rfl hx' (fun c hc => by subst hc; exact List.mem_singleton.2 rfl) (blk_local _ _ _) hB' (fun c hc => .inl hc)
          refine KeepC.mk (hx1.of_no.trans hx') ?_
          clear hx' hB' hx1
          generalize RBy.write R2 (p + 16) [UInt8.ofNat 165] = Q at hS hA3 hR3 ⊢
          obtain ⟨ok4, R3⟩ := Q
          rw [show ([165] : List UInt8) = [UInt8.ofNat 165] from rfl]
          generalize BytS.write B2 (p + 16) [UInt8.ofNat 165] = Q at hA3 ⊢
          obtain ⟨ok5, B3⟩ := Q
          obtain ⟨he1, hA3⟩ := hA3
          dsimp only at he1 hA3 hR3
          subst he1
          cases ok4
          · skip
            (conv => whnf)
            refine hS.st 1 rfl (Nat.le_of_ble_eq_true rfl) rfl (fun w' hS => ?_)
            repeat' ((conv => whnf); first | refine RetC.mk ?_ | refine NzC.mk (by decide) ?_ | refine RngC.mk (by omega) (by omega) ?_ | refine IdxC.mk (by omega) (by omega) ?_ | refine brD (fun _ => ?_) (fun _ => ?_) | refine brND (fun _ => ?_) (fun _ => ?_) | refine brN (fun _ => ?_) (fun _ => ?_) | refine brI (fun _ => ?_) (fun _ => ?_))
            exact ⟨rfl, hS.ext, R3, hA3, hR3.le (by first | omega | (simp; omega) | simp), hS.blk 0 rfl, hS.blk 1 rfl⟩
          · (conv => whnf)
            refine hS.st 1 rfl (Nat.le_of_ble_eq_true rfl) rfl (fun w' hS => ?_)
            (conv => whnf)
            refine hS.st 1 rfl (Nat.le_of_ble_eq_true rfl) rfl (fun w' hS => ?_)
            (conv => whnf)
            refine hS.st 1 rfl (Nat.le_of_ble_eq_true rfl) rfl (fun w' hS => ?_)
            repeat' ((conv => whnf); first | refine RetC.mk ?_ | refine NzC.mk (by decide) ?_ | refine RngC.mk (by omega) (by omega) ?_ | refine IdxC.mk (by omega) (by omega) ?_ | refine brD (fun _ => ?_) (fun _ => ?_) | refine brND (fun _ => ?_) (fun _ => ?_) | refine brN (fun _ => ?_) (fun _ => ?_) | refine brI (fun _ => ?_) (fun _ => ?_))
            exact ⟨rfl, hS.ext, R3, hA3, hR3.le (by first | omega | (simp; omega) | simp), hS.blk 0 rfl, (hS.blk 1 rfl).to (by rw [← hd]; rfl)⟩
    · rw [if_pos rfl]
      (conv => whnf)
      refine hS.st 1 rfl (Nat.le_of_ble_eq_true rfl) rfl (fun w' hS => ?_)
      repeat' ((conv => whnf); first | refine RetC.mk ?_ | refine NzC.mk (by decide) ?_ | refine RngC.mk (by omega) (by omega) ?_ | refine IdxC.mk (by omega) (by omega) ?_ | refine brD (fun _ => ?_) (fun _ => ?_) | refine brND (fun _ => ?_) (fun _ => ?_) | refine brN (fun _ => ?_) (fun _ => ?_) | refine brI (fun _ => ?_) (fun _ => ?_))
      exact ⟨rfl, hS.ext, R, hA, hR.le (by omega), hS.blk 0 rfl, hS.blk 1 rfl⟩
  · rw [if_pos rfl]
    repeat' ((conv => whnf); first | refine RetC.mk ?_ | refine NzC.mk (by decide) ?_ | refine RngC.mk (by omega) (by omega) ?_ | refine IdxC.mk (by omega) (by omega) ?_ | refine brD (fun _ => ?_) (fun _ => ?_) | refine brND (fun _ => ?_) (fun _ => ?_) | refine brN (fun _ => ?_) (fun _ => ?_) | refine brI (fun _ => ?_) (fun _ => ?_))
    exact ⟨rfl, hS.ext, R, hA, hR.le (by omega), hS.blk 0 rfl, hS.blk 1 rfl⟩
end
end Go.Proofs.YtoaghhcjlfiflaaGreatDoor
