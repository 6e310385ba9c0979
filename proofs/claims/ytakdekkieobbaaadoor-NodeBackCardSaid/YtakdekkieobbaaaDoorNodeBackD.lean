/-
  Texts of this claim, joined: NodeBack.
-/
import Derived.Test.YtakdekkieobbaaaDoorNodeBackC

/-
  NodeBack returns true whatever its arguments.
-/
namespace Go.Proofs.YtakdekkieobbaaaDoor
open Go Ev
theorem Ev.St.newT {w0 w1 w : World} {S T : Nat → Prop} {H : List Ent} (h : St w0 S w H) (hK : Ext T w1 w) {t : TypeId} {cs : List Value} {k : Value → World → Prop} (hk : ∀ b w', w.heap.size ≤ b → Ext T w1 w' → St w0 S w' (H ++ [Ev.blk b t cs]) → k (.pointer (some ⟨b, 0, none⟩)) w') : NewC w t cs k := by
  obtain ⟨h1⟩ := (St.start w No).new (t := t) (cs := cs) (k := fun v w' => ∀ b, v = .pointer (some ⟨b, 0, none⟩) → w' = w' ∧ w.heap.size ≤ b) (fun b w' hb _ b' e => by cases e; exact ⟨rfl, hb⟩)
  obtain ⟨h2⟩ := h.new (t := t) (cs := cs) (k := fun v w' => (∀ b, v = .pointer (some ⟨b, 0, none⟩) → w.heap.size ≤ b) → Ext T w1 w' → k v w') (fun b w' _ hS hb hx => hk b w' (hb b rfl) hx hS)
  exact ⟨h2 (fun b e => (h1 b e).2) (hK.trans (Ext.push _ _ _ _))⟩
def encEnd (e : Int × Int) : List Value := [.int .i64 e.1, .int .i64 e.2]
theorem codEnd : Codec 2 encEnd := ⟨fun _ => rfl, fun _ => rfl, by decide⟩
theorem codIb : Codec 1 encI := ⟨fun _ => rfl, fun _ => rfl, by decide⟩
theorem err_parts {p : PktS} (h : p.err = 0) : (p.proto = 1 ∨ p.proto = 2) ∧ endB p.da p.dp = true := by
  have hbad : p.bad = false := by
    unfold PktS.err at h
    split at h
    · exact absurd h (by decide)
    · rename_i hb
      exact Bool.eq_false_iff.2 hb
  unfold PktS.bad at hbad
  have := of_decide_eq_false hbad
  have h3 : endB p.da p.dp ≠ false := fun h => this (.inr (.inr (.inl h)))
  exact ⟨by omega, by simpa using h3⟩
theorem err_of {pr a b c d fl : Int} (h1 : pr = 1 ∨ pr = 2) (h2 : endB a b = true) (h3 : endB c d = true) (h4 : 0 ≤ fl ∧ fl ≤ 15) (h5 : pr = 1 → fl = 0) : (⟨pr, a, b, c, d, fl⟩ : PktS).err = 0 := by
  unfold PktS.err PktS.bad
  dsimp only
  rw [h2, h3, if_neg (by simp; omega), if_neg (by omega)]
theorem pk_oneB {p : PktS} (h : p.err = 0) (h2 : ¬ p.proto = 2) : p.proto = 1 := (err_parts h).1.resolve_right h2
theorem dec_endB {w : World} {d : Nat} (hd : 10 ≤ d) : Dec Tryd.prog w d 26 encEnd (fun _ => True) := by
  intro cs h
  have h1 : flatK Tryd.prog 10 26 = some [.int, .int] := by kernel_rfl
  have h2 : Tryd.prog.cellsOf 26 = 2 := by kernel_rfl
  obtain ⟨ps, rfl, hk, hok⟩ := shp_flat 10 d _ _ cs h1 hd h2 h
  obtain ⟨p1, r, rfl, g1, hk⟩ := kinds_cons hk
  obtain ⟨p2, r, rfl, g2, hk⟩ := kinds_cons hk
  obtain rfl := kinds_nil hk
  obtain ⟨n1, rfl⟩ := k_int g1
  obtain ⟨n2, rfl⟩ := k_int g2
  exact ⟨(n1, n2), rfl, trivial⟩
/-- What the ports are. -/
def PortsOf (L : Int) (D : List (Int × Int)) (inner : List (Int × Int)) (i : Nat) (ports : List Int) : Prop := ∀ (k : Nat) (e : Int × Int), k < i → inner[k]? = some e → ∃ j : Nat, ports[k]? = some (L + j) ∧ D[j]? = some e
theorem empty_free {j : Nat} {c : CellS} (h : emptyCells[j]? = some c) : ∃ i : Nat, c = ⟨i, 0, noFlow⟩ := by
  have hc := List.mem_of_getElem? h
  simp only [emptyCells, List.mem_map] at hc
  obtain ⟨i, _, rfl⟩ := hc
  exact ⟨i, rfl⟩
theorem nodeBack_ok {E : Nat → Addr} (W : World) (hE : Errs W E W.heap.size insErrs) (nid fa fp proto wait : Int) (a0 : Option Addr) (n0 c0 : Nat) (l : List (Int × Int)) (hx : Slc W 2 encEnd (fun _ => True) a0 n0 l) :
    CallC Tryd.prog 9 #[.int .i64 nid, .slice a0 n0 c0, .agg #[.int .i64 fa, .int .i64 fp], .int .i64 proto, .int .i64 wait] W fun v w' => v = .bool true ∧ Ext No W w' := by
  have hm0 := hx.max
  have hqW : ∀ b, No b → W.heap.size ≤ b := fun _ h => h.elim
  have h0 : openS by0.data = ⟨0, 0, 0, false⟩ := by decide +kernel
  refine fn_intro tabOk Tryd.func9 (by kernel_rfl) rfl Tryd.ntmps9 (Nat.le_of_ble_eq_true rfl) ?_
  have hS := St.start W No
  (conv => whnf)
  refine hS.new (fun bf w' hbf hS => ?_)
  replace hS : St W No w' [blk bf 26 [.int .i64 fa, .int .i64 fp]] := hS
  (conv => whnf)
  refine (wakes_ok _ ((hE.ext hS.ext fun _ h => h.elim).sub rfl) hS.ext.size).mono ?_
  rintro v w' ⟨rfl, hx'⟩
  replace hS := hS.no hx'
  clear hx'
  (conv => whnf)
  refine brD (fun h1 => ?_) (fun h1 => ?_)
  · repeat' ((conv => whnf); first | refine RetC.mk ?_ | refine NzC.mk (by decide) ?_ | refine RngC.mk (by omega) (by omega) ?_ | refine IdxC.mk (by omega) (by omega) ?_ | refine brD (fun _ => ?_) (fun _ => ?_) | refine brND (fun _ => ?_) (fun _ => ?_) | refine brN (fun _ => ?_) (fun _ => ?_) | refine brI (fun _ => ?_) (fun _ => ?_))
    exact ⟨rfl, hS.ext⟩
  (conv => whnf)
  refine brD (fun h2 => ?_) (fun h2 => ?_)
  · repeat' ((conv => whnf); first | refine RetC.mk ?_ | refine NzC.mk (by decide) ?_ | refine RngC.mk (by omega) (by omega) ?_ | refine IdxC.mk (by omega) (by omega) ?_ | refine brD (fun _ => ?_) (fun _ => ?_) | refine brND (fun _ => ?_) (fun _ => ?_) | refine brN (fun _ => ?_) (fun _ => ?_) | refine brI (fun _ => ?_) (fun _ => ?_))
    exact ⟨rfl, hS.ext⟩
  have hid : nid = 0 ∨ nid = 1 := by omega
  (conv => whnf)
  refine brD (fun h3 => ?_) (fun h3 => ?_)
  · repeat' ((conv => whnf); first | refine RetC.mk ?_ | refine NzC.mk (by decide) ?_ | refine RngC.mk (by omega) (by omega) ?_ | refine IdxC.mk (by omega) (by omega) ?_ | refine brD (fun _ => ?_) (fun _ => ?_) | refine brND (fun _ => ?_) (fun _ => ?_) | refine brN (fun _ => ?_) (fun _ => ?_) | refine brI (fun _ => ?_) (fun _ => ?_))
    exact ⟨rfl, hS.ext⟩
  (conv => whnf)
  refine brD (fun h4 => ?_) (fun h4 => ?_)
  · repeat' ((conv => whnf); first | refine RetC.mk ?_ | refine NzC.mk (by decide) ?_ | refine RngC.mk (by omega) (by omega) ?_ | refine IdxC.mk (by omega) (by omega) ?_ | refine brD (fun _ => ?_) (fun _ => ?_) | refine brND (fun _ => ?_) (fun _ => ?_) | refine brN (fun _ => ?_) (fun _ => ?_) | refine brI (fun _ => ?_) (fun _ => ?_))
    exact ⟨rfl, hS.ext⟩
  (conv => whnf)
  refine brD (fun h5 => ?_) (fun h5 => ?_)
  · repeat' ((conv => whnf); first | refine RetC.mk ?_ | refine NzC.mk (by decide) ?_ | refine RngC.mk (by omega) (by omega) ?_ | refine IdxC.mk (by omega) (by omega) ?_ | refine brD (fun _ => ?_) (fun _ => ?_) | refine brND (fun _ => ?_) (fun _ => ?_) | refine brN (fun _ => ?_) (fun _ => ?_) | refine brI (fun _ => ?_) (fun _ => ?_))
    exact ⟨rfl, hS.ext⟩
  (conv => whnf)
  refine (newBytes_ok _).mono ?_
  rintro v w' ⟨b, rfl, hb, hx', hB⟩
  replace hS := hS.made hx' (blk_local _ _ _) hB (by simp [blk]; exact ⟨hb, hB.lt⟩)
  have fb := hS.fresh 1 rfl
  clear hx' hB hb
  (conv => whnf)
  refine hS.litX (cs := encRule allowAll) Tryd.underlying22 (sz := 5) (by kernel_rfl) (z := .agg (encRule noRule).toArray) (by kernel_rfl) rfl rfl (by rfl) (fun b2 w' hb2 hx1 hS => ?_)
  clear hx1
  have hne := hS.ne 2 1 rfl rfl (by decide)
  have hslc : Slc w' 5 encRule (fun _ => True) (some ⟨b2, 0, none⟩) 1 [allowAll] := Slc.of_blk codRule (hS.blk 2 rfl) rfl (by simp) (fun _ _ => trivial) rfl
  obtain ⟨p1, p2⟩ := Lived.born (id := nid) (B := by0) (rules := [allowAll]) hid rfl ⟨by0_bok, rfl, rfl⟩ (by rw [h0]; decide) (by rw [h0]; decide) (by rw [h0]; decide)
  (conv => whnf)
  refine (nnew_ok nid hid hslc (by decide) rfl (fun _ b0 o0 e => by cases e; exact hne) (hS.blk 1 rfl) by0_bok rfl ((hE.ext hS.ext fun _ h => h.elim).sub rfl) fb).mono ?_
  rintro v w' (⟨_, A, hAb, rfl, ht⟩ | ⟨hn2, _⟩)
  case inr => exact absurd p1 hn2
  have hs1 := hS.sel [1, 0] (by decide)
  replace hS := St.call (H := [blk b 103 (encBy by0)]) (B := [blk bf 26 [.int .i64 fa, .int .i64 fp]]) hs1 ht
  clear ht hs1 hslc hne
  rw [h0] at p2
  have hru : (newN nid by0 [allowAll]).2.1.rules = [allowAll] := rfl
  generalize (newN nid by0 [allowAll]).2 = T at hS p2 hru
  obtain ⟨N, B⟩ := T
  dsimp only at hS p2 hru
  (conv => whnf)
  refine loopR tabOk (fun σ w' q => ∃ (k : Nat) (N : NodeS) (B : BytS), σ = [(15, .int .i64 k), (13, .pointer (some ⟨A.n, 0, none⟩)), (7, .pointer (some ⟨bf, 0, none⟩)), (4, .int .i64 wait), (3, .int .i64 proto), (1, .slice a0 n0 c0)] ∧ q = 10 - k ∧ k ≤ 10 ∧ Lived 0 1 1 k N B ∧ N.rules = [allowAll] ∧ St W No w' (nodeB A N B ++ [blk bf 26 [.int .i64 fa, .int .i64 fp]]))
    (σ' := [(15, .int .i64 ((0 : Nat) : Int)), (13, .pointer (some ⟨A.n, 0, none⟩)), (7, .pointer (some ⟨bf, 0, none⟩)), (4, .int .i64 wait), (3, .int .i64 proto), (1, .slice a0 n0 c0)]) (n := 10) ⟨rfl, rfl, rfl, rfl, rfl, rfl, trivial⟩ ⟨0, N, B, rfl, rfl, Nat.zero_le _, p2, hru, hS⟩ ?_
  clear hS p2 hru
  clear N B
  rintro _ w6 q ⟨k, N, B, rfl, rfl, hk, p2, hru, hS⟩
  (conv => whnf)
  refine brD (fun h6 => ?_) (fun h6 => ?_)
  · (conv => whnf)
    refine (ntick_ok hS.has.left p2.ok p2.pow.bok (by omega) ((hE.ext hS.ext hqW).sub rfl) (fun d hd => hS.high hqW (Nat.le_refl _) d (inF_app.2 (.inl hd)))).mono ?_
    rintro v w' ⟨a2, c2, x2, y2, rfl, ht⟩
    replace hS := (St.call hS ht).sel [0, 1, 2, 3, 4, 5, 6, 7, 10] (by decide)
    obtain ⟨t1, t2⟩ := p2.tick (by omega) (by omega) (by omega) (by omega)
    have t3 := (ttick_rules N B).trans hru
    rw [t1]
    (conv => whnf)
    refine RngC.mk (by omega) (by omega) ?_
    (conv => whnf)
    refine LoopE.mk ⟨_, [(15, .int .i64 ((k + 1 : Nat) : Int)), (13, _), (7, _), (4, _), (3, _), (1, _)], ?_, ⟨rfl, rfl, rfl, rfl, rfl, rfl, trivial⟩, ⟨k + 1, _, _, rfl, rfl, by omega, t2, t3, hS⟩⟩
    omega
  obtain rfl : k = 10 := by omega
  obtain ⟨_, hact, _⟩ := p2.at_.resolve_left (fun h => absurd h.1 (by decide))
  obtain ⟨L, hL⟩ : ∃ L, N.tab.life = L := ⟨_, rfl⟩
  have hL2 : 2000 ≤ L ∧ L ≤ 2024 := by
    have h8 := p2.ok.lif
    have h9 := p2.ok.id
    omega
  (conv => whnf)
  refine brD (fun h7 => ?_) (fun h7 => ?_)
  · skip
    have h7' := h7
    (conv => whnf)
    refine loopR tabOk (fun σ w' q => ∃ (i : Nat) (N : NodeS) (B : BytS) (D : List (Int × Int)) (a : Option Addr) (c : Nat) (ports : List Int), σ = [(21, .int .i64 i), (20, .slice a i c), (19, .int .i64 (3)), (18, .int .i64 (1)), (13, .pointer (some ⟨A.n, 0, none⟩)), (7, .pointer (some ⟨bf, 0, none⟩)), (4, .int .i64 wait), (3, .int .i64 proto), (1, .slice a0 n0 c0)] ∧ q = n0 - i ∧ i ≤ n0 ∧ ports.length = i ∧ D.length ≤ i ∧ N.now = 10 ∧ N.tab.life = L ∧ (i = 0 ∨ (proto = (2) ∧ endB fa fp = true)) ∧ PortsOf L D l i ports ∧ Backed (2) fa fp 20 (400 + i) N B D ∧ St W No w' (nodeB A N B ++ [blk bf 26 [.int .i64 fa, .int .i64 fp], ownL 3 1 encI (.slice a i c) ports]))
      (σ' := [(21, .int .i64 ((0 : Nat) : Int)), (20, .slice none 0 0), (19, .int .i64 (3)), (18, .int .i64 (1)), (13, .pointer (some ⟨A.n, 0, none⟩)), (7, .pointer (some ⟨bf, 0, none⟩)), (4, .int .i64 wait), (3, .int .i64 proto), (1, .slice a0 n0 c0)]) (n := n0) ⟨rfl, rfl, rfl, rfl, rfl, rfl, rfl, rfl, rfl, trivial⟩ ⟨0, N, B, [], none, 0, [], rfl, rfl, Nat.zero_le _, rfl, Nat.le_refl _, p2.now, hL, .inl rfl, fun k e h => absurd h (Nat.not_lt_zero _), ⟨p2.ok.mono (by decide), p2.pow.bok, hact, hru, ⟨p2.ok.tab.len, by decide, .nil, by decide, fun j e h => by simp at h, fun j c _ h => by rw [p2.tab] at h; obtain ⟨_, rfl⟩ := empty_free h; rfl⟩⟩, hS.addNil 3 1 encI⟩ ?_
    clear hS p2 hact hru
    rintro _ w7 q ⟨i, N, B, D, a, c, ports, rfl, rfl, hi, hpl, hDl, hnow, hL, hpf, hPO, hBk, hS⟩
    have h7s : W.heap.size ≤ w7.heap.size := hS.ext.size
    have hti : ∀ st, st = 1 ∨ st = 2 → (20 : Int) ≤ N.now + timeS (2) st := fun st hst => by
      rw [hnow]
      rcases hst with rfl | rfl <;> decide
    (conv => whnf)
    refine brD (fun h7 => ?_) (fun h7 => ?_)
    · obtain ⟨b0, o0, e, hek, _, rfl, hb0, hc⟩ := hx.at (k := i) (by omega)
      have hbfl := (hS.blk 8 rfl).lt
      (conv => whnf)
      (refine drawS tabOk mixed [] (fun d => w7.heap.size ≤ d) [0, 1, 2, 3, 4, 5, 6, 7, 8, 9] (by kernel_rfl) ?_; rintro w1 rfl; replace hS := hS.drew)
      have hK := hS.ref (fun d => w7.heap.size ≤ d)
      repeat' ((conv => whnf); first | refine IdxC.mk (by omega) (by omega) ?_ | refine hS.larF (l := encEnd e) rfl hc (fun h => h) (fun h => absurd (Nat.le_trans h7s h) (Nat.not_le.2 hb0)) ?_ | refine hS.laXF 8 rfl rfl (Nat.not_le.2 hbfl) ?_)
      refine hS.newT hK (fun bp w' hbp hK hS => KeepC.mk hK ?_)
      (conv => whnf)
      refine hS.stK hK 10 rfl (Nat.le_of_ble_eq_true rfl) rfl hbp (fun w' hK hS => KeepC.mk hK ?_)
      clear hK
      replace hS : St W No w' (nodeB A N B ++ [blk bf 26 [.int .i64 fa, .int .i64 fp], ownL 3 1 encI (.slice a i c) ports, blk bp 28 (encPkt ⟨proto, e.1, e.2, fa, fp, (1)⟩)]) := hS
      (conv => whnf)
      refine hS.laX 10 rfl rfl ?_
      (conv => whnf)
      refine (perror_ok ⟨proto, e.1, e.2, fa, fp, (1)⟩ _).mono ?_
      rintro v w' ⟨rfl, hx'⟩
      replace hS := hS.no hx'
      clear hx'
      (conv => whnf)
      refine brD (fun h8 => ?_) (fun h8 => ?_)
      · repeat' ((conv => whnf); first | refine RetC.mk ?_ | refine NzC.mk (by decide) ?_ | refine RngC.mk (by omega) (by omega) ?_ | refine IdxC.mk (by omega) (by omega) ?_ | refine brD (fun _ => ?_) (fun _ => ?_) | refine brND (fun _ => ?_) (fun _ => ?_) | refine brN (fun _ => ?_) (fun _ => ?_) | refine brI (fun _ => ?_) (fun _ => ?_))
        exact ⟨rfl, hS.ext⟩
      have herr : (⟨proto, e.1, e.2, fa, fp, (1)⟩ : PktS).err = 0 := by omega
      obtain ⟨hp12, hfar⟩ := err_parts herr
      obtain rfl : proto = (2) := h7'
      obtain ⟨D', j, i1, i2, i3, i4, i5, i6, i7⟩ := hBk.inside e herr (s := (1)) (by exact rfl) (by decide) (by omega) (fun st hst => by rcases hst with rfl | rfl; exact ⟨1, .inl rfl, by kernel_rfl⟩; exact ⟨2, .inr rfl, by kernel_rfl⟩) hti
      (conv => whnf)
      refine hS.laX 10 rfl rfl ?_
      (conv => whnf)
      refine (ninside_ok ⟨(2), e.1, e.2, fa, fp, (1)⟩ hS.has.left.left hBk.ok (by omega) (hE.ext hS.ext hqW) (fun d hd => hS.high hqW (Nat.le_refl _) d (inF_app.2 (.inl (inF_app.2 (.inl hd)))))).mono ?_
      rintro v w' ⟨rfl, ht⟩
      replace hS := St.call (H := nodeH A N) (B := [blk A.b 103 (encBy B)] ++ [blk bf 26 [.int .i64 fa, .int .i64 fp], ownL 3 1 encI (.slice a i c) ports, blk bp 28 (encPkt ⟨(2), e.1, e.2, fa, fp, (1)⟩)]) hS ht
      clear ht
      rw [i1, i2]
      generalize (N.inside ⟨(2), e.1, e.2, fa, fp, (1)⟩).2.2 = N2 at hS i3 i4 i7
      rw [hL] at i2 i4 ⊢
      (conv => whnf)
      refine hS.new (fun bx w' hbx hS => ?_)
      (conv => whnf)
      refine hS.st 11 rfl (Nat.le_of_ble_eq_true rfl) rfl (fun w' hS => ?_)
      replace hS : St W No w' (nodeB A N2 B ++ [blk bf 26 [.int .i64 fa, .int .i64 fp], ownL 3 1 encI (.slice a i c) ports, blk bp 28 (encPkt ⟨(2), e.1, e.2, fa, fp, (1)⟩), blk bx 28 (encPkt ⟨(2), 1, L + j, fa, fp, (1)⟩)]) := hS
      (conv => whnf)
      refine hS.ld 11 rfl (v := .int .i64 1) rfl ?_
      (conv => whnf)
      refine hS.laX 11 rfl rfl ?_
      (conv => whnf)
      refine hS.laX 8 rfl rfl ?_
      (conv => whnf)
      refine neEnd ?_
      rw [decide_eq_true ⟨rfl, rfl⟩]
      (conv => whnf)
      refine hS.ld 11 rfl (v := .int .i64 (L + j)) rfl ?_
      (conv => whnf)
      refine hS.litX (cs := [.int .i64 (L + j)]) Tryd.underlying48 (sz := 1) (by kernel_rfl) (z := .int .i64 0) (by kernel_rfl) rfl rfl (by rfl) (fun bl w' hbl hx1 hS => ?_)
      clear hx1
      (conv => whnf)
      refine hS.appX codIb 9 (ys := [L + j]) (G := fun _ => True) Tryd.underlying48 (bytes := 8) (by kernel_rfl) (z := .int .i64 0) (by kernel_rfl) rfl rfl (Slc.of_blk codIb (hS.blk 12 rfl) rfl (by simp) (fun _ _ => trivial) rfl) (by rw [hpl]; unfold maxLen; omega) (by rw [hpl]; omega) (fun a5 c5 w' hx2 hS => ?_)
      clear hx2
      rw [hpl] at hS ⊢
      replace hS : St W No w' (nodeB A N2 B ++ [blk bf 26 [.int .i64 fa, .int .i64 fp], ownL 3 1 encI (.slice a5 (i + 1) c5) (ports ++ [L + j])]) := hS.keep 10
      have hpre : ∀ (k : Nat) (x : Int × Int), D[k]? = some x → D'[k]? = some x := fun k x hk => by
        rcases i6 with rfl | rfl
        · exact hk
        · rw [List.getElem?_append_left (List.getElem?_eq_some_iff.1 hk).1]
          exact hk
      have hPO2 : PortsOf L D' l (i + 1) (ports ++ [L + j]) := by
        intro k x hk hkx
        by_cases hki : k = i
        · subst hki
          rw [hek] at hkx
          obtain rfl := Option.some.inj hkx
          exact ⟨j, by rw [List.getElem?_append_right (by omega), hpl, Nat.sub_self]; rfl, i5⟩
        · obtain ⟨j2, g1, g2⟩ := hPO k x (by omega) hkx
          exact ⟨j2, by rw [List.getElem?_append_left (List.getElem?_eq_some_iff.1 g1).1]; exact g1, hpre _ _ g2⟩
      have hDl2 : D'.length ≤ i + 1 := by
        rcases i6 with rfl | rfl
        · omega
        · simp; omega
      (conv => whnf)
      refine RngC.mk (by omega) (by omega) ?_
      (conv => whnf)
      refine LoopE.mk ⟨_, [(21, .int .i64 ((i + 1 : Nat) : Int)), (20, _), (19, _), (18, _), (13, _), (7, _), (4, _), (3, _), (1, _)], ?_, ⟨rfl, rfl, rfl, rfl, rfl, rfl, rfl, rfl, rfl, trivial⟩, ⟨i + 1, N2, B, D', a5, c5, ports ++ [L + j], rfl, rfl, by omega, by simp [hpl], hDl2, by rw [i3, hnow], i4, .inr ⟨rfl, hfar⟩, hPO2, i7.mono (by omega), hS⟩⟩
      omega
    obtain rfl : i = n0 := by omega
    clear hti
    (conv => whnf)
    refine loopR tabOk (fun σ w' q => ∃ (k : Nat) (N : NodeS) (B : BytS), σ = [(25, .int .i64 k), (20, .slice a i c), (19, .int .i64 (3)), (13, .pointer (some ⟨A.n, 0, none⟩)), (7, .pointer (some ⟨bf, 0, none⟩)), (4, .int .i64 wait), (3, .int .i64 proto), (1, .slice a0 i c0)] ∧ q = wait.toNat - k ∧ k ≤ wait.toNat ∧ N.now = 10 + k ∧ N.tab.life = L ∧ Backed (2) fa fp 20 (500 + 34 * k) N B D ∧ St W No w' (nodeB A N B ++ [blk bf 26 [.int .i64 fa, .int .i64 fp], ownL 3 1 encI (.slice a i c) ports]))
      (σ' := [(25, .int .i64 ((0 : Nat) : Int)), (20, .slice a i c), (19, .int .i64 (3)), (13, .pointer (some ⟨A.n, 0, none⟩)), (7, .pointer (some ⟨bf, 0, none⟩)), (4, .int .i64 wait), (3, .int .i64 proto), (1, .slice a0 i c0)]) (n := wait.toNat) ⟨rfl, rfl, rfl, rfl, rfl, rfl, rfl, rfl, trivial⟩ ⟨0, N, B, rfl, rfl, Nat.zero_le _, by omega, hL, hBk.mono (by omega), hS⟩ ?_
    clear hS hBk hL hnow
    rintro _ w8 q ⟨k, N, B, rfl, rfl, hk, hnow, hL, hBk, hS⟩
    (conv => whnf)
    refine brD (fun h8 => ?_) (fun h8 => ?_)
    · (conv => whnf)
      refine (ntick_ok hS.has.left hBk.ok hBk.bok (by omega) ((hE.ext hS.ext hqW).sub rfl) (fun d hd => hS.high hqW (Nat.le_refl _) d (inF_app.2 (.inl hd)))).mono ?_
      rintro v w' ⟨a2, c2, x2, y2, rfl, ht⟩
      replace hS := (St.call hS ht).sel [0, 1, 2, 3, 4, 5, 6, 7, 10, 11] (by decide)
      obtain ⟨t1, t2, t3, t4⟩ := hBk.tick (by omega) (by omega) (by omega)
      rw [t1]
      (conv => whnf)
      refine RngC.mk (by omega) (by omega) ?_
      (conv => whnf)
      refine LoopE.mk ⟨_, [(25, .int .i64 ((k + 1 : Nat) : Int)), (20, _), (19, _), (13, _), (7, _), (4, _), (3, _), (1, _)], ?_, ⟨rfl, rfl, rfl, rfl, rfl, rfl, rfl, rfl, trivial⟩, ⟨k + 1, _, _, rfl, rfl, by omega, by rw [t2, hnow]; omega, t3.trans hL, t4.mono (by omega), hS⟩⟩
      omega
    obtain ⟨now, hnw, hnb⟩ : ∃ now, N.now = now ∧ 10 ≤ now := ⟨_, rfl, by omega⟩
    (conv => whnf)
    refine loopR tabOk (fun σ w' q => ∃ (g : Nat) (N : NodeS), σ = [(28, .int .i64 g), (20, .slice a i c), (19, .int .i64 (3)), (13, .pointer (some ⟨A.n, 0, none⟩)), (7, .pointer (some ⟨bf, 0, none⟩)), (3, .int .i64 proto), (1, .slice a0 i c0)] ∧ q = i - g ∧ g ≤ i ∧ N.now = now ∧ N.tab.life = L ∧ Backed (2) fa fp 20 (1000 + g) N B D ∧ St W No w' (nodeB A N B ++ [blk bf 26 [.int .i64 fa, .int .i64 fp], ownL 3 1 encI (.slice a i c) ports]))
      (σ' := [(28, .int .i64 ((0 : Nat) : Int)), (20, .slice a i c), (19, .int .i64 (3)), (13, .pointer (some ⟨A.n, 0, none⟩)), (7, .pointer (some ⟨bf, 0, none⟩)), (3, .int .i64 proto), (1, .slice a0 i c0)]) (n := i) ⟨rfl, rfl, rfl, rfl, rfl, rfl, rfl, trivial⟩ ⟨0, N, rfl, rfl, Nat.zero_le _, hnw, hL, hBk.mono (by omega), hS⟩ ?_
    clear hS hBk hL hnow hnw
    rintro _ w9 q ⟨g, N, rfl, rfl, hg, hnow, hL, hBk, hS⟩
    have hti : ∀ st, st = 1 ∨ st = 2 → (20 : Int) ≤ N.now + timeS (2) st := fun st hst => by
      have h20 : (10 : Int) ≤ timeS (2) st := by rcases hst with rfl | rfl <;> decide
      omega
    (conv => whnf)
    refine brD (fun h9 => ?_) (fun h9 => ?_)
    · obtain ⟨b0, o0, e, hek, _, rfl, hb0, hc⟩ := hx.at (k := g) (by omega)
      obtain ⟨rfl, hfar⟩ := hpf.resolve_left (by omega)
      obtain ⟨j, hpj, hDj⟩ := hPO g e (by omega) hek
      have hjl := (List.getElem?_eq_some_iff.1 hDj).1
      have hj24 := hBk.tab.d24
      have hgl : (ports[g]?) = some (L + j) := hpj
      have herr : (⟨(2), fa, fp, 1, N.tab.life + j, (3)⟩ : PktS).err = 0 := by
        rw [hL]
        exact err_of (.inr rfl) hfar (by unfold endB; exact decide_eq_true ⟨by decide, by decide, by omega, by omega⟩) (by decide) (fun h => absurd h (by decide))
      obtain ⟨i1, i2, i3, i4, i5⟩ := hBk.outside hDj herr (fun st hst => by rcases hst with rfl | rfl; exact ⟨2, .inr rfl, by kernel_rfl⟩; exact ⟨2, .inr rfl, by kernel_rfl⟩) hti
      rw [hL] at i1 i2 i3 i4 i5
      obtain ⟨b3, o3, x, hxp, _, rfl, hb3, hcp⟩ := (ownL_slc (G := fun _ => True) codIb (hS.get 9 rfl) (fun _ _ => trivial)).at (k := g) (by omega)
      rw [hgl] at hxp
      obtain rfl := Option.some.inj hxp
      have hbfl := (hS.blk 8 rfl).lt
      have hT8 : ¬ (inF (nodeH A N) bf ∨ w9.heap.size ≤ bf) := by
        rintro (⟨f, hf, hb⟩ | h)
        · exact (List.pairwise_append.1 hS.apart).2.2 f (List.mem_append_left _ hf) _ List.mem_cons_self bf hb (List.mem_singleton.2 rfl)
        · omega
      have hT9 : ¬ (inF (nodeH A N) b3 ∨ w9.heap.size ≤ b3) := by
        rintro (⟨f, hf, hb⟩ | h)
        · exact (List.pairwise_append.1 hS.apart).2.2 f (List.mem_append_left _ hf) _ (List.mem_cons_of_mem _ List.mem_cons_self) b3 hb (by simp [ownL, own, Value.ownBlock])
        · omega
      (conv => whnf)
      refine DrawC.cut (fun σ w' => ∃ (bx : Nat) (N2 : NodeS), σ = [(30, .nilIface), (29, .pointer (some ⟨bx, 0, none⟩)), (28, .int .i64 g), (20, .slice (some ⟨b3, o3, none⟩) i c), (19, .int .i64 (3)), (13, .pointer (some ⟨A.n, 0, none⟩)), (7, .pointer (some ⟨bf, 0, none⟩)), (3, .int .i64 (2)), (1, .slice (some ⟨b0, o0, none⟩) i c0)] ∧ N2.now = now ∧ N2.tab.life = L ∧ Backed (2) fa fp 20 (1000 + (g + 1)) N2 B D ∧ St W No w' (nodeB A N2 B ++ [blk bf 26 [.int .i64 fa, .int .i64 fp], ownL 3 1 encI (.slice (some ⟨b3, o3, none⟩) i c) ports, blk bx 28 (encPkt ⟨(2), fa, fp, e.1, e.2, (3)⟩)])) ?_ ?_
      · refine drawT tabOk mixed [] (fun d => inF (nodeH A N) d ∨ w9.heap.size ≤ d) (.take 0 (.take 1 (.take 2 (.take 3 (.take 4 (.take 5 (.take 6 (.take 7 (.take 8 (.take 9 (.alt 10 (.take 11 (.take 12 (.take 13 (.alt 14 (.alt 15 (.take 16 .fin) .fin) .fin)))) (.alt 14 (.alt 10 (.take 11 (.take 12 (.take 13 (.alt 15 (.take 16 .fin) .fin)))) .fin) .fin)))))))))))) (by kernel_rfl) ?_
        rintro w1 rfl
        replace hS := hS.drew
        have hK := hS.ref (fun d => inF (nodeH A N) d ∨ w9.heap.size ≤ d)
        repeat' ((conv => whnf); first | refine And.intro ?_ ?_ | refine hS.laXF 8 rfl rfl hT8 ?_ | refine IdxC.mk (by omega) (by omega) ?_ | refine ldFc (hcp.one 0 (v := .int .i64 (L + j)) rfl) hT9 ?_)
        · (conv => whnf)
          refine (noutside_ok ⟨(2), fa, fp, 1, L + j, (3)⟩ (A := A) hS.has.left.left hBk.ok (by omega) (hE.ext hS.ext hqW) (fun d hd => hS.high hqW (Nat.le_refl _) d (inF_app.2 (.inl (inF_app.2 (.inl hd)))))).mono ?_
          rintro v w' ⟨rfl, ht⟩
          replace hS := St.call (H := nodeH A N) (B := [blk A.b 103 (encBy B)] ++ [blk bf 26 [.int .i64 fa, .int .i64 fp], ownL 3 1 encI (.slice (some ⟨b3, o3, none⟩) i c) ports]) hS ht
          replace hK := hK.trans (ht.ext.mono fun d h => .inl h)
          refine KeepC.mk hK ?_
          clear ht
          rw [i1, i2]
          generalize (N.outside ⟨(2), fa, fp, 1, L + j, (3)⟩).2.2 = N2 at hS i3 i4 i5
          (conv => whnf)
          refine hS.newT hK (fun bx w' hbx hK2 hS => KeepC.mk hK2 ?_)
          (conv => whnf)
          refine hS.stK hK2 10 rfl (Nat.le_of_ble_eq_true rfl) rfl (.inr (Nat.le_trans hK.size hbx)) (fun w' hK3 hS => KeepC.mk hK3 ?_)
          exact CutE.mk ⟨[(30, _), (29, _), (28, _), (20, _), (19, _), (13, _), (7, _), (3, _), (1, _)], ⟨rfl, rfl, rfl, rfl, rfl, rfl, rfl, rfl, rfl, trivial⟩, bx, N2, rfl, i3.trans hnow, i4, i5.mono (by omega), hS⟩
        · (conv => whnf)
          refine hS.newT hK (fun bx w' hbx hK2 hS => KeepC.mk hK2 ?_)
          replace hS : St W No w' (nodeB A N B ++ [blk bf 26 [.int .i64 fa, .int .i64 fp], ownL 3 1 encI (.slice (some ⟨b3, o3, none⟩) i c) ports, blk bx 28 (encPkt noPkt)]) := hS
          (conv => whnf)
          refine (noutside_ok ⟨(2), fa, fp, 1, L + j, (3)⟩ (A := A) hS.has.left.left hBk.ok (by omega) (hE.ext hS.ext hqW) (fun d hd => hS.high hqW (Nat.le_refl _) d (inF_app.2 (.inl (inF_app.2 (.inl hd)))))).mono ?_
          rintro v w' ⟨rfl, ht⟩
          replace hS := St.call (H := nodeH A N) (B := [blk A.b 103 (encBy B)] ++ [blk bf 26 [.int .i64 fa, .int .i64 fp], ownL 3 1 encI (.slice (some ⟨b3, o3, none⟩) i c) ports, blk bx 28 (encPkt noPkt)]) hS ht
          replace hK2 := hK2.trans (ht.ext.mono fun d h => .inl h)
          refine KeepC.mk hK2 ?_
          clear ht
          rw [i1, i2]
          generalize (N.outside ⟨(2), fa, fp, 1, L + j, (3)⟩).2.2 = N2 at hS i3 i4 i5
          (conv => whnf)
          refine hS.stK hK2 10 rfl (Nat.le_of_ble_eq_true rfl) rfl (.inr hbx) (fun w' hK3 hS => KeepC.mk hK3 ?_)
          exact CutE.mk ⟨[(30, _), (29, _), (28, _), (20, _), (19, _), (13, _), (7, _), (3, _), (1, _)], ⟨rfl, rfl, rfl, rfl, rfl, rfl, rfl, rfl, rfl, trivial⟩, bx, N2, rfl, i3.trans hnow, i4, i5.mono (by omega), hS⟩
      clear hS i1 i2 i3 i4 i5 hT8 hT9 hbfl hcp hBk hL hnow
      rintro _ w10 ⟨bx, N2, rfl, hnow, hL, hBk, hS⟩
      have hcp := (ownL_slc (G := fun _ => True) codIb (hS.get 9 rfl) (fun _ _ => trivial))
      (conv => whnf)
      (refine drawS tabOk mixed [] No [0, 1, 2, 3, 4, 5, 6, 7, 8, 9, 10, 11, 12, 13, 14, 15, 16] (by kernel_rfl) ?_; rintro w1 rfl; replace hS := hS.drew)
      repeat' ((conv => whnf); first | refine hS.laXF 10 rfl rfl (fun h => h) ?_ | refine hS.laXF 8 rfl rfl (fun h => h) ?_ | refine IdxC.mk (by omega) (by omega) ?_ | refine hS.larF (l := encEnd e) rfl hc (fun h => h) (fun h => h) ?_ | (refine neEnd ?_; rw [decide_eq_true ⟨rfl, rfl⟩]))
      replace hS : St W No _ (nodeB A N2 B ++ [blk bf 26 [.int .i64 fa, .int .i64 fp], ownL 3 1 encI (.slice (some ⟨b3, o3, none⟩) i c) ports]) := hS.keep 10
      clear hcp
      (conv => whnf)
      refine loopR tabOk (fun σ w' q => ∃ k : Nat, σ = [(31, .int .i64 k), (28, .int .i64 g), (20, .slice (some ⟨b3, o3, none⟩) i c), (19, .int .i64 (3)), (13, .pointer (some ⟨A.n, 0, none⟩)), (7, .pointer (some ⟨bf, 0, none⟩)), (3, .int .i64 (2)), (1, .slice (some ⟨b0, o0, none⟩) i c0)] ∧ q = g - k ∧ k ≤ g ∧ St W No w' (nodeB A N2 B ++ [blk bf 26 [.int .i64 fa, .int .i64 fp], ownL 3 1 encI (.slice (some ⟨b3, o3, none⟩) i c) ports]))
        (σ' := [(31, .int .i64 ((0 : Nat) : Int)), (28, .int .i64 g), (20, .slice (some ⟨b3, o3, none⟩) i c), (19, .int .i64 (3)), (13, .pointer (some ⟨A.n, 0, none⟩)), (7, .pointer (some ⟨bf, 0, none⟩)), (3, .int .i64 (2)), (1, .slice (some ⟨b0, o0, none⟩) i c0)]) (n := g) ⟨rfl, rfl, rfl, rfl, rfl, rfl, rfl, rfl, trivial⟩ ⟨0, rfl, rfl, Nat.zero_le _, hS⟩ ?_
      clear hS
      rintro _ w11 q ⟨k2, rfl, rfl, hk2, hS⟩
      (conv => whnf)
      refine brD (fun h10 => ?_) (fun h10 => ?_)
      · obtain ⟨b4, o4, e2, hek2, _, hb4e, _, hc2⟩ := hx.at (k := k2) (by omega)
        cases hb4e
        obtain ⟨j2, hpj2, hDj2⟩ := hPO k2 e2 (by omega) hek2
        have hsl := ownL_slc (G := fun _ => True) codIb (hS.get 9 rfl) (fun _ _ => trivial)
        obtain ⟨b5, o5, x5, hx5, _, hb5e, _, hp5⟩ := hsl.at (k := g) (by omega)
        cases hb5e
        obtain ⟨b6, o6, x6, hx6, _, hb6e, _, hp6⟩ := hsl.at (k := k2) (by omega)
        cases hb6e
        rw [hgl] at hx5
        obtain rfl := Option.some.inj hx5
        rw [hpj2] at hx6
        obtain rfl := Option.some.inj hx6
        have hsame : decide (e2.1 = e.1 ∧ e2.2 = e.2) = (L + (j2 : Int) == L + (j : Int)) := by
          by_cases hjj : j2 = j
          · subst hjj
            obtain rfl := Option.some.inj (hDj2.symm.trans hDj)
            simp
          · have hne : ¬ (e2.1 = e.1 ∧ e2.2 = e.2) := fun h => by
              have he2 : e2 = e := Prod.ext h.1 h.2
              subst he2
              exact hjj ((List.getElem?_inj (List.getElem?_eq_some_iff.1 hDj2).1 hBk.tab.nd).1 (hDj2.trans hDj.symm))
            rw [decide_eq_false hne]
            symm
            rw [beq_eq_false_iff_ne]
            omega
        (conv => whnf)
        (refine drawS tabOk mixed [] No [0, 1, 2, 3, 4, 5, 6, 7, 8, 9, 10, 11, 12, 13, 14, 15, 16, 17, 18] (by kernel_rfl) ?_; rintro w1 rfl; replace hS := hS.drew)
        repeat' ((conv => whnf); first | refine IdxC.mk (by omega) (by omega) ?_ | refine hS.larF (l := encEnd e2) rfl hc2 (fun h => h) (fun h => h) ?_ | refine hS.larF (l := encEnd e) rfl hc (fun h => h) (fun h => h) ?_ | (refine eqEnd ?_) | refine ldFc (hp6.one 0 (v := .int .i64 (L + j2)) rfl) (fun h => h) ?_ | refine ldFc (hp5.one 0 (v := .int .i64 (L + j)) rfl) (fun h => h) ?_)
        rw [hsame]
        (conv => whnf)
        rw [show (!((L + (j2 : Int) == L + (j : Int)) == (L + (j2 : Int) == L + (j : Int)))) = false by cases (L + (j2 : Int) == L + (j : Int)) <;> rfl]
        (conv => whnf)
        refine RngC.mk (by omega) (by omega) ?_
        (conv => whnf)
        refine LoopE.mk ⟨_, [(31, .int .i64 ((k2 + 1 : Nat) : Int)), (28, _), (20, _), (19, _), (13, _), (7, _), (3, _), (1, _)], ?_, ⟨rfl, rfl, rfl, rfl, rfl, rfl, rfl, rfl, trivial⟩, ⟨k2 + 1, rfl, rfl, by omega, hS⟩⟩
        omega
      (conv => whnf)
      refine RngC.mk (by omega) (by omega) ?_
      (conv => whnf)
      refine LoopE.mk ⟨_, [(28, .int .i64 ((g + 1 : Nat) : Int)), (20, _), (19, _), (13, _), (7, _), (3, _), (1, _)], ?_, ⟨rfl, rfl, rfl, rfl, rfl, rfl, rfl, trivial⟩, ⟨g + 1, N2, rfl, rfl, by omega, hnow, hL, hBk, hS⟩⟩
      omega
    · repeat' ((conv => whnf); first | refine RetC.mk ?_ | refine NzC.mk (by decide) ?_ | refine RngC.mk (by omega) (by omega) ?_ | refine IdxC.mk (by omega) (by omega) ?_ | refine brD (fun _ => ?_) (fun _ => ?_) | refine brND (fun _ => ?_) (fun _ => ?_) | refine brN (fun _ => ?_) (fun _ => ?_) | refine brI (fun _ => ?_) (fun _ => ?_))
      exact ⟨rfl, hS.ext⟩
  · have h7' := h7
    (conv => whnf)
    refine loopR tabOk (fun σ w' q => ∃ (i : Nat) (N : NodeS) (B : BytS) (D : List (Int × Int)) (a : Option Addr) (c : Nat) (ports : List Int), σ = [(21, .int .i64 i), (20, .slice a i c), (19, .int .i64 (0)), (18, .int .i64 (0)), (13, .pointer (some ⟨A.n, 0, none⟩)), (7, .pointer (some ⟨bf, 0, none⟩)), (4, .int .i64 wait), (3, .int .i64 proto), (1, .slice a0 n0 c0)] ∧ q = n0 - i ∧ i ≤ n0 ∧ ports.length = i ∧ D.length ≤ i ∧ N.now = 10 ∧ N.tab.life = L ∧ (i = 0 ∨ (proto = (1) ∧ endB fa fp = true)) ∧ PortsOf L D l i ports ∧ Backed (1) fa fp 20 (400 + i) N B D ∧ St W No w' (nodeB A N B ++ [blk bf 26 [.int .i64 fa, .int .i64 fp], ownL 3 1 encI (.slice a i c) ports]))
      (σ' := [(21, .int .i64 ((0 : Nat) : Int)), (20, .slice none 0 0), (19, .int .i64 (0)), (18, .int .i64 (0)), (13, .pointer (some ⟨A.n, 0, none⟩)), (7, .pointer (some ⟨bf, 0, none⟩)), (4, .int .i64 wait), (3, .int .i64 proto), (1, .slice a0 n0 c0)]) (n := n0) ⟨rfl, rfl, rfl, rfl, rfl, rfl, rfl, rfl, rfl, trivial⟩ ⟨0, N, B, [], none, 0, [], rfl, rfl, Nat.zero_le _, rfl, Nat.le_refl _, p2.now, hL, .inl rfl, fun k e h => absurd h (Nat.not_lt_zero _), ⟨p2.ok.mono (by decide), p2.pow.bok, hact, hru, ⟨p2.ok.tab.len, by decide, .nil, by decide, fun j e h => by simp at h, fun j c _ h => by rw [p2.tab] at h; obtain ⟨_, rfl⟩ := empty_free h; rfl⟩⟩, hS.addNil 3 1 encI⟩ ?_
    clear hS p2 hact hru
    rintro _ w7 q ⟨i, N, B, D, a, c, ports, rfl, rfl, hi, hpl, hDl, hnow, hL, hpf, hPO, hBk, hS⟩
    have h7s : W.heap.size ≤ w7.heap.size := hS.ext.size
    have hti : ∀ st, st = 1 ∨ st = 2 → (20 : Int) ≤ N.now + timeS (1) st := fun st hst => by
      rw [hnow]
      rcases hst with rfl | rfl <;> decide
    (conv => whnf)
    refine brD (fun h7 => ?_) (fun h7 => ?_)
    · obtain ⟨b0, o0, e, hek, _, rfl, hb0, hc⟩ := hx.at (k := i) (by omega)
      have hbfl := (hS.blk 8 rfl).lt
      (conv => whnf)
      (refine drawS tabOk mixed [] (fun d => w7.heap.size ≤ d) [0, 1, 2, 3, 4, 5, 6, 7, 8, 9] (by kernel_rfl) ?_; rintro w1 rfl; replace hS := hS.drew)
      have hK := hS.ref (fun d => w7.heap.size ≤ d)
      repeat' ((conv => whnf); first | refine IdxC.mk (by omega) (by omega) ?_ | refine hS.larF (l := encEnd e) rfl hc (fun h => h) (fun h => absurd (Nat.le_trans h7s h) (Nat.not_le.2 hb0)) ?_ | refine hS.laXF 8 rfl rfl (Nat.not_le.2 hbfl) ?_)
      refine hS.newT hK (fun bp w' hbp hK hS => KeepC.mk hK ?_)
      (conv => whnf)
      refine hS.stK hK 10 rfl (Nat.le_of_ble_eq_true rfl) rfl hbp (fun w' hK hS => KeepC.mk hK ?_)
      clear hK
      replace hS : St W No w' (nodeB A N B ++ [blk bf 26 [.int .i64 fa, .int .i64 fp], ownL 3 1 encI (.slice a i c) ports, blk bp 28 (encPkt ⟨proto, e.1, e.2, fa, fp, (0)⟩)]) := hS
      (conv => whnf)
      refine hS.laX 10 rfl rfl ?_
      (conv => whnf)
      refine (perror_ok ⟨proto, e.1, e.2, fa, fp, (0)⟩ _).mono ?_
      rintro v w' ⟨rfl, hx'⟩
      replace hS := hS.no hx'
      clear hx'
      (conv => whnf)
      refine brD (fun h8 => ?_) (fun h8 => ?_)
      · repeat' ((conv => whnf); first | refine RetC.mk ?_ | refine NzC.mk (by decide) ?_ | refine RngC.mk (by omega) (by omega) ?_ | refine IdxC.mk (by omega) (by omega) ?_ | refine brD (fun _ => ?_) (fun _ => ?_) | refine brND (fun _ => ?_) (fun _ => ?_) | refine brN (fun _ => ?_) (fun _ => ?_) | refine brI (fun _ => ?_) (fun _ => ?_))
        exact ⟨rfl, hS.ext⟩
      have herr : (⟨proto, e.1, e.2, fa, fp, (0)⟩ : PktS).err = 0 := by omega
      obtain ⟨hp12, hfar⟩ := err_parts herr
      obtain rfl : proto = (1) := pk_oneB herr h7'
      obtain ⟨D', j, i1, i2, i3, i4, i5, i6, i7⟩ := hBk.inside e herr (s := (2)) (by exact rfl) (by decide) (by omega) (fun st hst => ⟨st, hst, rfl⟩) hti
      (conv => whnf)
      refine hS.laX 10 rfl rfl ?_
      (conv => whnf)
      refine (ninside_ok ⟨(1), e.1, e.2, fa, fp, (0)⟩ hS.has.left.left hBk.ok (by omega) (hE.ext hS.ext hqW) (fun d hd => hS.high hqW (Nat.le_refl _) d (inF_app.2 (.inl (inF_app.2 (.inl hd)))))).mono ?_
      rintro v w' ⟨rfl, ht⟩
      replace hS := St.call (H := nodeH A N) (B := [blk A.b 103 (encBy B)] ++ [blk bf 26 [.int .i64 fa, .int .i64 fp], ownL 3 1 encI (.slice a i c) ports, blk bp 28 (encPkt ⟨(1), e.1, e.2, fa, fp, (0)⟩)]) hS ht
      clear ht
      rw [i1, i2]
      generalize (N.inside ⟨(1), e.1, e.2, fa, fp, (0)⟩).2.2 = N2 at hS i3 i4 i7
      rw [hL] at i2 i4 ⊢
      (conv => whnf)
      refine hS.new (fun bx w' hbx hS => ?_)
      (conv => whnf)
      refine hS.st 11 rfl (Nat.le_of_ble_eq_true rfl) rfl (fun w' hS => ?_)
      replace hS : St W No w' (nodeB A N2 B ++ [blk bf 26 [.int .i64 fa, .int .i64 fp], ownL 3 1 encI (.slice a i c) ports, blk bp 28 (encPkt ⟨(1), e.1, e.2, fa, fp, (0)⟩), blk bx 28 (encPkt ⟨(1), 1, L + j, fa, fp, (0)⟩)]) := hS
      (conv => whnf)
      refine hS.ld 11 rfl (v := .int .i64 1) rfl ?_
      (conv => whnf)
      refine hS.laX 11 rfl rfl ?_
      (conv => whnf)
      refine hS.laX 8 rfl rfl ?_
      (conv => whnf)
      refine neEnd ?_
      rw [decide_eq_true ⟨rfl, rfl⟩]
      (conv => whnf)
      refine hS.ld 11 rfl (v := .int .i64 (L + j)) rfl ?_
      (conv => whnf)
      refine hS.litX (cs := [.int .i64 (L + j)]) Tryd.underlying48 (sz := 1) (by kernel_rfl) (z := .int .i64 0) (by kernel_rfl) rfl rfl (by rfl) (fun bl w' hbl hx1 hS => ?_)
      clear hx1
      (conv => whnf)
      refine hS.appX codIb 9 (ys := [L + j]) (G := fun _ => True) Tryd.underlying48 (bytes := 8) (by kernel_rfl) (z := .int .i64 0) (by kernel_rfl) rfl rfl (Slc.of_blk codIb (hS.blk 12 rfl) rfl (by simp) (fun _ _ => trivial) rfl) (by rw [hpl]; unfold maxLen; omega) (by rw [hpl]; omega) (fun a5 c5 w' hx2 hS => ?_)
      clear hx2
      rw [hpl] at hS ⊢
      replace hS : St W No w' (nodeB A N2 B ++ [blk bf 26 [.int .i64 fa, .int .i64 fp], ownL 3 1 encI (.slice a5 (i + 1) c5) (ports ++ [L + j])]) := hS.keep 10
      have hpre : ∀ (k : Nat) (x : Int × Int), D[k]? = some x → D'[k]? = some x := fun k x hk => by
        rcases i6 with rfl | rfl
        · exact hk
        · rw [List.getElem?_append_left (List.getElem?_eq_some_iff.1 hk).1]
          exact hk
      have hPO2 : PortsOf L D' l (i + 1) (ports ++ [L + j]) := by
        intro k x hk hkx
        by_cases hki : k = i
        · subst hki
          rw [hek] at hkx
          obtain rfl := Option.some.inj hkx
          exact ⟨j, by rw [List.getElem?_append_right (by omega), hpl, Nat.sub_self]; rfl, i5⟩
        · obtain ⟨j2, g1, g2⟩ := hPO k x (by omega) hkx
          exact ⟨j2, by rw [List.getElem?_append_left (List.getElem?_eq_some_iff.1 g1).1]; exact g1, hpre _ _ g2⟩
      have hDl2 : D'.length ≤ i + 1 := by
        rcases i6 with rfl | rfl
        · omega
        · simp; omega
      (conv => whnf)
      refine RngC.mk (by omega) (by omega) ?_
      (conv => whnf)
      refine LoopE.mk ⟨_, [(21, .int .i64 ((i + 1 : Nat) : Int)), (20, _), (19, _), (18, _), (13, _), (7, _), (4, _), (3, _), (1, _)], ?_, ⟨rfl, rfl, rfl, rfl, rfl, rfl, rfl, rfl, rfl, trivial⟩, ⟨i + 1, N2, B, D', a5, c5, ports ++ [L + j], rfl, rfl, by omega, by simp [hpl], hDl2, by rw [i3, hnow], i4, .inr ⟨rfl, hfar⟩, hPO2, i7.mono (by omega), hS⟩⟩
      omega
    obtain rfl : i = n0 := by omega
    clear hti
    (conv => whnf)
    refine loopR tabOk (fun σ w' q => ∃ (k : Nat) (N : NodeS) (B : BytS), σ = [(25, .int .i64 k), (20, .slice a i c), (19, .int .i64 (0)), (13, .pointer (some ⟨A.n, 0, none⟩)), (7, .pointer (some ⟨bf, 0, none⟩)), (4, .int .i64 wait), (3, .int .i64 proto), (1, .slice a0 i c0)] ∧ q = wait.toNat - k ∧ k ≤ wait.toNat ∧ N.now = 10 + k ∧ N.tab.life = L ∧ Backed (1) fa fp 20 (500 + 34 * k) N B D ∧ St W No w' (nodeB A N B ++ [blk bf 26 [.int .i64 fa, .int .i64 fp], ownL 3 1 encI (.slice a i c) ports]))
      (σ' := [(25, .int .i64 ((0 : Nat) : Int)), (20, .slice a i c), (19, .int .i64 (0)), (13, .pointer (some ⟨A.n, 0, none⟩)), (7, .pointer (some ⟨bf, 0, none⟩)), (4, .int .i64 wait), (3, .int .i64 proto), (1, .slice a0 i c0)]) (n := wait.toNat) ⟨rfl, rfl, rfl, rfl, rfl, rfl, rfl, rfl, trivial⟩ ⟨0, N, B, rfl, rfl, Nat.zero_le _, by omega, hL, hBk.mono (by omega), hS⟩ ?_
    clear hS hBk hL hnow
    rintro _ w8 q ⟨k, N, B, rfl, rfl, hk, hnow, hL, hBk, hS⟩
    (conv => whnf)
    refine brD (fun h8 => ?_) (fun h8 => ?_)
    · (conv => whnf)
      refine (ntick_ok hS.has.left hBk.ok hBk.bok (by omega) ((hE.ext hS.ext hqW).sub rfl) (fun d hd => hS.high hqW (Nat.le_refl _) d (inF_app.2 (.inl hd)))).mono ?_
      rintro v w' ⟨a2, c2, x2, y2, rfl, ht⟩
      replace hS := (St.call hS ht).sel [0, 1, 2, 3, 4, 5, 6, 7, 10, 11] (by decide)
      obtain ⟨t1, t2, t3, t4⟩ := hBk.tick (by omega) (by omega) (by omega)
      rw [t1]
      (conv => whnf)
      refine RngC.mk (by omega) (by omega) ?_
      (conv => whnf)
      refine LoopE.mk ⟨_, [(25, .int .i64 ((k + 1 : Nat) : Int)), (20, _), (19, _), (13, _), (7, _), (4, _), (3, _), (1, _)], ?_, ⟨rfl, rfl, rfl, rfl, rfl, rfl, rfl, rfl, trivial⟩, ⟨k + 1, _, _, rfl, rfl, by omega, by rw [t2, hnow]; omega, t3.trans hL, t4.mono (by omega), hS⟩⟩
      omega
    obtain ⟨now, hnw, hnb⟩ : ∃ now, N.now = now ∧ 10 ≤ now := ⟨_, rfl, by omega⟩
    (conv => whnf)
    refine loopR tabOk (fun σ w' q => ∃ (g : Nat) (N : NodeS), σ = [(28, .int .i64 g), (20, .slice a i c), (19, .int .i64 (0)), (13, .pointer (some ⟨A.n, 0, none⟩)), (7, .pointer (some ⟨bf, 0, none⟩)), (3, .int .i64 proto), (1, .slice a0 i c0)] ∧ q = i - g ∧ g ≤ i ∧ N.now = now ∧ N.tab.life = L ∧ Backed (1) fa fp 20 (1000 + g) N B D ∧ St W No w' (nodeB A N B ++ [blk bf 26 [.int .i64 fa, .int .i64 fp], ownL 3 1 encI (.slice a i c) ports]))
      (σ' := [(28, .int .i64 ((0 : Nat) : Int)), (20, .slice a i c), (19, .int .i64 (0)), (13, .pointer (some ⟨A.n, 0, none⟩)), (7, .pointer (some ⟨bf, 0, none⟩)), (3, .int .i64 proto), (1, .slice a0 i c0)]) (n := i) ⟨rfl, rfl, rfl, rfl, rfl, rfl, rfl, trivial⟩ ⟨0, N, rfl, rfl, Nat.zero_le _, hnw, hL, hBk.mono (by omega), hS⟩ ?_
    clear hS hBk hL hnow hnw
    rintro _ w9 q ⟨g, N, rfl, rfl, hg, hnow, hL, hBk, hS⟩
    have hti : ∀ st, st = 1 ∨ st = 2 → (20 : Int) ≤ N.now + timeS (1) st := fun st hst => by
      have h20 : (10 : Int) ≤ timeS (1) st := by rcases hst with rfl | rfl <;> decide
      omega
    (conv => whnf)
    refine brD (fun h9 => ?_) (fun h9 => ?_)
    · obtain ⟨b0, o0, e, hek, _, rfl, hb0, hc⟩ := hx.at (k := g) (by omega)
      obtain ⟨rfl, hfar⟩ := hpf.resolve_left (by omega)
      obtain ⟨j, hpj, hDj⟩ := hPO g e (by omega) hek
      have hjl := (List.getElem?_eq_some_iff.1 hDj).1
      have hj24 := hBk.tab.d24
      have hgl : (ports[g]?) = some (L + j) := hpj
      have herr : (⟨(1), fa, fp, 1, N.tab.life + j, (0)⟩ : PktS).err = 0 := by
        rw [hL]
        exact err_of (.inl rfl) hfar (by unfold endB; exact decide_eq_true ⟨by decide, by decide, by omega, by omega⟩) (by decide) (fun _ => rfl)
      obtain ⟨i1, i2, i3, i4, i5⟩ := hBk.outside hDj herr (fun st hst => ⟨st, hst, rfl⟩) hti
      rw [hL] at i1 i2 i3 i4 i5
      obtain ⟨b3, o3, x, hxp, _, rfl, hb3, hcp⟩ := (ownL_slc (G := fun _ => True) codIb (hS.get 9 rfl) (fun _ _ => trivial)).at (k := g) (by omega)
      rw [hgl] at hxp
      obtain rfl := Option.some.inj hxp
      have hbfl := (hS.blk 8 rfl).lt
      have hT8 : ¬ (inF (nodeH A N) bf ∨ w9.heap.size ≤ bf) := by
        rintro (⟨f, hf, hb⟩ | h)
        · exact (List.pairwise_append.1 hS.apart).2.2 f (List.mem_append_left _ hf) _ List.mem_cons_self bf hb (List.mem_singleton.2 rfl)
        · omega
      have hT9 : ¬ (inF (nodeH A N) b3 ∨ w9.heap.size ≤ b3) := by
        rintro (⟨f, hf, hb⟩ | h)
        · exact (List.pairwise_append.1 hS.apart).2.2 f (List.mem_append_left _ hf) _ (List.mem_cons_of_mem _ List.mem_cons_self) b3 hb (by simp [ownL, own, Value.ownBlock])
        · omega
      (conv => whnf)
      refine DrawC.cut (fun σ w' => ∃ (bx : Nat) (N2 : NodeS), σ = [(30, .nilIface), (29, .pointer (some ⟨bx, 0, none⟩)), (28, .int .i64 g), (20, .slice (some ⟨b3, o3, none⟩) i c), (19, .int .i64 (0)), (13, .pointer (some ⟨A.n, 0, none⟩)), (7, .pointer (some ⟨bf, 0, none⟩)), (3, .int .i64 (1)), (1, .slice (some ⟨b0, o0, none⟩) i c0)] ∧ N2.now = now ∧ N2.tab.life = L ∧ Backed (1) fa fp 20 (1000 + (g + 1)) N2 B D ∧ St W No w' (nodeB A N2 B ++ [blk bf 26 [.int .i64 fa, .int .i64 fp], ownL 3 1 encI (.slice (some ⟨b3, o3, none⟩) i c) ports, blk bx 28 (encPkt ⟨(1), fa, fp, e.1, e.2, (0)⟩)])) ?_ ?_
      · refine drawT tabOk mixed [] (fun d => inF (nodeH A N) d ∨ w9.heap.size ≤ d) (.take 0 (.take 1 (.take 2 (.take 3 (.take 4 (.take 5 (.take 6 (.take 7 (.take 8 (.take 9 (.alt 10 (.take 11 (.take 12 (.take 13 (.alt 14 (.alt 15 (.take 16 .fin) .fin) .fin)))) (.alt 14 (.alt 10 (.take 11 (.take 12 (.take 13 (.alt 15 (.take 16 .fin) .fin)))) .fin) .fin)))))))))))) (by kernel_rfl) ?_
        rintro w1 rfl
        replace hS := hS.drew
        have hK := hS.ref (fun d => inF (nodeH A N) d ∨ w9.heap.size ≤ d)
        repeat' ((conv => whnf); first | refine And.intro ?_ ?_ | refine hS.laXF 8 rfl rfl hT8 ?_ | refine IdxC.mk (by omega) (by omega) ?_ | refine ldFc (hcp.one 0 (v := .int .i64 (L + j)) rfl) hT9 ?_)
        · (conv => whnf)
          refine (noutside_ok ⟨(1), fa, fp, 1, L + j, (0)⟩ (A := A) hS.has.left.left hBk.ok (by omega) (hE.ext hS.ext hqW) (fun d hd => hS.high hqW (Nat.le_refl _) d (inF_app.2 (.inl (inF_app.2 (.inl hd)))))).mono ?_
          rintro v w' ⟨rfl, ht⟩
          replace hS := St.call (H := nodeH A N) (B := [blk A.b 103 (encBy B)] ++ [blk bf 26 [.int .i64 fa, .int .i64 fp], ownL 3 1 encI (.slice (some ⟨b3, o3, none⟩) i c) ports]) hS ht
          replace hK := hK.trans (ht.ext.mono fun d h => .inl h)
          refine KeepC.mk hK ?_
          clear ht
          rw [i1, i2]
          generalize (N.outside ⟨(1), fa, fp, 1, L + j, (0)⟩).2.2 = N2 at hS i3 i4 i5
          (conv => whnf)
          refine hS.newT hK (fun bx w' hbx hK2 hS => KeepC.mk hK2 ?_)
          (conv => whnf)
          refine hS.stK hK2 10 rfl (Nat.le_of_ble_eq_true rfl) rfl (.inr (Nat.le_trans hK.size hbx)) (fun w' hK3 hS => KeepC.mk hK3 ?_)
          exact CutE.mk ⟨[(30, _), (29, _), (28, _), (20, _), (19, _), (13, _), (7, _), (3, _), (1, _)], ⟨rfl, rfl, rfl, rfl, rfl, rfl, rfl, rfl, rfl, trivial⟩, bx, N2, rfl, i3.trans hnow, i4, i5.mono (by omega), hS⟩
        · (conv => whnf)
          refine hS.newT hK (fun bx w' hbx hK2 hS => KeepC.mk hK2 ?_)
          replace hS : St W No w' (nodeB A N B ++ [blk bf 26 [.int .i64 fa, .int .i64 fp], ownL 3 1 encI (.slice (some ⟨b3, o3, none⟩) i c) ports, blk bx 28 (encPkt noPkt)]) := hS
          (conv => whnf)
          refine (noutside_ok ⟨(1), fa, fp, 1, L + j, (0)⟩ (A := A) hS.has.left.left hBk.ok (by omega) (hE.ext hS.ext hqW) (fun d hd => hS.high hqW (Nat.le_refl _) d (inF_app.2 (.inl (inF_app.2 (.inl hd)))))).mono ?_
          rintro v w' ⟨rfl, ht⟩
          replace hS := St.call (H := nodeH A N) (B := [blk A.b 103 (encBy B)] ++ [blk bf 26 [.int .i64 fa, .int .i64 fp], ownL 3 1 encI (.slice (some ⟨b3, o3, none⟩) i c) ports, blk bx 28 (encPkt noPkt)]) hS ht
          replace hK2 := hK2.trans (ht.ext.mono fun d h => .inl h)
          refine KeepC.mk hK2 ?_
          clear ht
          rw [i1, i2]
          generalize (N.outside ⟨(1), fa, fp, 1, L + j, (0)⟩).2.2 = N2 at hS i3 i4 i5
          (conv => whnf)
          refine hS.stK hK2 10 rfl (Nat.le_of_ble_eq_true rfl) rfl (.inr hbx) (fun w' hK3 hS => KeepC.mk hK3 ?_)
          exact CutE.mk ⟨[(30, _), (29, _), (28, _), (20, _), (19, _), (13, _), (7, _), (3, _), (1, _)], ⟨rfl, rfl, rfl, rfl, rfl, rfl, rfl, rfl, rfl, trivial⟩, bx, N2, rfl, i3.trans hnow, i4, i5.mono (by omega), hS⟩
      clear hS i1 i2 i3 i4 i5 hT8 hT9 hbfl hcp hBk hL hnow
      rintro _ w10 ⟨bx, N2, rfl, hnow, hL, hBk, hS⟩
      have hcp := (ownL_slc (G := fun _ => True) codIb (hS.get 9 rfl) (fun _ _ => trivial))
      (conv => whnf)
      (refine drawS tabOk mixed [] No [0, 1, 2, 3, 4, 5, 6, 7, 8, 9, 10, 11, 12, 13, 14, 15, 16] (by kernel_rfl) ?_; rintro w1 rfl; replace hS := hS.drew)
      repeat' ((conv => whnf); first | refine hS.laXF 10 rfl rfl (fun h => h) ?_ | refine hS.laXF 8 rfl rfl (fun h => h) ?_ | refine IdxC.mk (by omega) (by omega) ?_ | refine hS.larF (l := encEnd e) rfl hc (fun h => h) (fun h => h) ?_ | (refine neEnd ?_; rw [decide_eq_true ⟨rfl, rfl⟩]))
      replace hS : St W No _ (nodeB A N2 B ++ [blk bf 26 [.int .i64 fa, .int .i64 fp], ownL 3 1 encI (.slice (some ⟨b3, o3, none⟩) i c) ports]) := hS.keep 10
      clear hcp
      (conv => whnf)
      refine loopR tabOk (fun σ w' q => ∃ k : Nat, σ = [(31, .int .i64 k), (28, .int .i64 g), (20, .slice (some ⟨b3, o3, none⟩) i c), (19, .int .i64 (0)), (13, .pointer (some ⟨A.n, 0, none⟩)), (7, .pointer (some ⟨bf, 0, none⟩)), (3, .int .i64 (1)), (1, .slice (some ⟨b0, o0, none⟩) i c0)] ∧ q = g - k ∧ k ≤ g ∧ St W No w' (nodeB A N2 B ++ [blk bf 26 [.int .i64 fa, .int .i64 fp], ownL 3 1 encI (.slice (some ⟨b3, o3, none⟩) i c) ports]))
        (σ' := [(31, .int .i64 ((0 : Nat) : Int)), (28, .int .i64 g), (20, .slice (some ⟨b3, o3, none⟩) i c), (19, .int .i64 (0)), (13, .pointer (some ⟨A.n, 0, none⟩)), (7, .pointer (some ⟨bf, 0, none⟩)), (3, .int .i64 (1)), (1, .slice (some ⟨b0, o0, none⟩) i c0)]) (n := g) ⟨rfl, rfl, rfl, rfl, rfl, rfl, rfl, rfl, trivial⟩ ⟨0, rfl, rfl, Nat.zero_le _, hS⟩ ?_
      clear hS
      rintro _ w11 q ⟨k2, rfl, rfl, hk2, hS⟩
      (conv => whnf)
      refine brD (fun h10 => ?_) (fun h10 => ?_)
      · obtain ⟨b4, o4, e2, hek2, _, hb4e, _, hc2⟩ := hx.at (k := k2) (by omega)
        cases hb4e
        obtain ⟨j2, hpj2, hDj2⟩ := hPO k2 e2 (by omega) hek2
        have hsl := ownL_slc (G := fun _ => True) codIb (hS.get 9 rfl) (fun _ _ => trivial)
        obtain ⟨b5, o5, x5, hx5, _, hb5e, _, hp5⟩ := hsl.at (k := g) (by omega)
        cases hb5e
        obtain ⟨b6, o6, x6, hx6, _, hb6e, _, hp6⟩ := hsl.at (k := k2) (by omega)
        cases hb6e
        rw [hgl] at hx5
        obtain rfl := Option.some.inj hx5
        rw [hpj2] at hx6
        obtain rfl := Option.some.inj hx6
        have hsame : decide (e2.1 = e.1 ∧ e2.2 = e.2) = (L + (j2 : Int) == L + (j : Int)) := by
          by_cases hjj : j2 = j
          · subst hjj
            obtain rfl := Option.some.inj (hDj2.symm.trans hDj)
            simp
          · have hne : ¬ (e2.1 = e.1 ∧ e2.2 = e.2) := fun h => by
              have he2 : e2 = e := Prod.ext h.1 h.2
              subst he2
              exact hjj ((List.getElem?_inj (List.getElem?_eq_some_iff.1 hDj2).1 hBk.tab.nd).1 (hDj2.trans hDj.symm))
            rw [decide_eq_false hne]
            symm
            rw [beq_eq_false_iff_ne]
            omega
        (conv => whnf)
        (refine drawS tabOk mixed [] No [0, 1, 2, 3, 4, 5, 6, 7, 8, 9, 10, 11, 12, 13, 14, 15, 16, 17, 18] (by kernel_rfl) ?_; rintro w1 rfl; replace hS := hS.drew)
        repeat' ((conv => whnf); first | refine IdxC.mk (by omega) (by omega) ?_ | refine hS.larF (l := encEnd e2) rfl hc2 (fun h => h) (fun h => h) ?_ | refine hS.larF (l := encEnd e) rfl hc (fun h => h) (fun h => h) ?_ | (refine eqEnd ?_) | refine ldFc (hp6.one 0 (v := .int .i64 (L + j2)) rfl) (fun h => h) ?_ | refine ldFc (hp5.one 0 (v := .int .i64 (L + j)) rfl) (fun h => h) ?_)
        rw [hsame]
        (conv => whnf)
        rw [show (!((L + (j2 : Int) == L + (j : Int)) == (L + (j2 : Int) == L + (j : Int)))) = false by cases (L + (j2 : Int) == L + (j : Int)) <;> rfl]
        (conv => whnf)
        refine RngC.mk (by omega) (by omega) ?_
        (conv => whnf)
        refine LoopE.mk ⟨_, [(31, .int .i64 ((k2 + 1 : Nat) : Int)), (28, _), (20, _), (19, _), (13, _), (7, _), (3, _), (1, _)], ?_, ⟨rfl, rfl, rfl, rfl, rfl, rfl, rfl, rfl, trivial⟩, ⟨k2 + 1, rfl, rfl, by omega, hS⟩⟩
        omega
      (conv => whnf)
      refine RngC.mk (by omega) (by omega) ?_
      (conv => whnf)
      refine LoopE.mk ⟨_, [(28, .int .i64 ((g + 1 : Nat) : Int)), (20, _), (19, _), (13, _), (7, _), (3, _), (1, _)], ?_, ⟨rfl, rfl, rfl, rfl, rfl, rfl, rfl, trivial⟩, ⟨g + 1, N2, rfl, rfl, by omega, hnow, hL, hBk, hS⟩⟩
      omega
    · repeat' ((conv => whnf); first | refine RetC.mk ?_ | refine NzC.mk (by decide) ?_ | refine RngC.mk (by omega) (by omega) ?_ | refine IdxC.mk (by omega) (by omega) ?_ | refine brD (fun _ => ?_) (fun _ => ?_) | refine brND (fun _ => ?_) (fun _ => ?_) | refine brN (fun _ => ?_) (fun _ => ?_) | refine brI (fun _ => ?_) (fun _ => ?_))
      exact ⟨rfl, hS.ext⟩
theorem nodeBack_walk {E : Nat → Addr} (W : World) (args : List Value) (hE : Errs W E W.heap.size insErrs) (ha : ArgsOk Tryd.prog W [3, 84, 26, 3, 3] args) :
    CallC Tryd.prog 9 args.toArray W fun v w' => v = .bool true ∧ Ext No W w' := by
  obtain ⟨v0, args, rfl, h0, ha⟩ := ha.cons
  obtain ⟨v1, args, rfl, h1, ha⟩ := ha.cons
  obtain ⟨v2, args, rfl, h2, ha⟩ := ha.cons
  obtain ⟨v3, args, rfl, h3, ha⟩ := ha.cons
  obtain ⟨v4, args, rfl, h4, ha⟩ := ha.cons
  obtain rfl := ha.nil
  obtain ⟨d, hd⟩ : ∃ d : Nat, 10 ≤ d := ⟨10, Nat.le_refl _⟩
  obtain ⟨nid, rfl, _⟩ := arg_int Tryd.underlying3 h0
  obtain ⟨a0, n0, c0, xs, rfl, hx, _⟩ := arg_slice (d := d) (sz := 2) Tryd.underlying84 (by kernel_rfl) (by decide) (dec_endB hd) h1
  obtain ⟨fa, fp, rfl⟩ := arg_end h2
  obtain ⟨proto, rfl, _⟩ := arg_int Tryd.underlying3 h3
  obtain ⟨wait, rfl, _⟩ := arg_int Tryd.underlying3 h4
  exact nodeBack_ok W hE nid fa fp proto wait a0 n0 c0 xs hx
end Go.Proofs.YtakdekkieobbaaaDoor
