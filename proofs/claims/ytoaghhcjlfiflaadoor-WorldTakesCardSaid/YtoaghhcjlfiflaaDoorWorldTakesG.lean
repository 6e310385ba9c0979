/-
  Texts of this claim, joined: WorldTakes.
-/
import Derived.Test.YtoaghhcjlfiflaaDoorWorldTakesF

namespace Go.Proofs.YtoaghhcjlfiflaaDoor
open Go Ev
theorem Ev.St.newT {w0 w1 w : World} {S T : Nat → Prop} {H : List Ent} (h : St w0 S w H) (hK : Ext T w1 w) {t : TypeId} {cs : List Value} {k : Value → World → Prop} (hk : ∀ b w', w.heap.size ≤ b → Ext T w1 w' → St w0 S w' (H ++ [Ev.blk b t cs]) → k (.pointer (some ⟨b, 0, none⟩)) w') : NewC w t cs k := by
  obtain ⟨h1⟩ := (St.start w No).new (t := t) (cs := cs) (k := fun v w' => ∀ b, v = .pointer (some ⟨b, 0, none⟩) → w' = w' ∧ w.heap.size ≤ b) (fun b w' hb _ b' e => by cases e; exact ⟨rfl, hb⟩)
  obtain ⟨h2⟩ := h.new (t := t) (cs := cs) (k := fun v w' => (∀ b, v = .pointer (some ⟨b, 0, none⟩) → w.heap.size ≤ b) → Ext T w1 w' → k v w') (fun b w' _ hS hb hx => hk b w' (hb b rfl) hx hS)
  exact ⟨h2 (fun b e => (h1 b e).2) (hK.trans (Ext.push _ _ _ _))⟩
def encEnd (e : Int × Int) : List Value := [.int .i64 e.1, .int .i64 e.2]
theorem dec_endB {w : World} {d : Nat} (hd : 10 ≤ d) : Dec Tryd.prog w d 24 encEnd (fun _ => True) := by
  intro cs h
  have h1 : flatK Tryd.prog 10 24 = some [.int, .int] := by kernel_rfl
  have h2 : Tryd.prog.cellsOf 24 = 2 := by kernel_rfl
  obtain ⟨ps, rfl, hk, hok⟩ := shp_flat 10 d _ _ cs h1 hd h2 h
  obtain ⟨p1, r, rfl, g1, hk⟩ := kinds_cons hk
  obtain ⟨p2, r, rfl, g2, hk⟩ := kinds_cons hk
  obtain rfl := kinds_nil hk
  obtain ⟨n1, rfl⟩ := k_int g1
  obtain ⟨n2, rfl⟩ := k_int g2
  exact ⟨(n1, n2), rfl, trivial⟩
def PortsOf (L : Int) (D : List (Int × Int)) (inner : List (Int × Int)) (i : Nat) (ports : List Int) : Prop := ∀ (k : Nat) (e : Int × Int), k < i → inner[k]? = some e → ∃ j : Nat, ports[k]? = some (L + j) ∧ D[j]? = some e
theorem tk_ok {f : Int} {m : Nat} {W : WorldS} (h : WOk m W) : ∀ k : Nat, m + 34 * k ≤ 30000000 → WOk (m + 34 * k) (W.tk f k)
  | 0, _ => h
  | k + 1, hk => ((tk_ok h k (by omega)).tick (by omega) f).mono (by omega)
theorem dlT_ok {m : Nat} {W : WorldS} (h : WOk m W) : ∀ k : Nat, WOk m (W.dl k)
  | 0 => h
  | k + 1 => (dlT_ok h k).deliver 0
set_option maxRecDepth 100000 in
theorem worldTakes_ok {E : Nat → Addr} (W : World) (hE : Errs W E W.heap.size insErrs) (f fa fp proto : Int) (a0 : Option Addr) (n0 c0 : Nat) (l : List (Int × Int)) (hx : Slc W 2 encEnd (fun _ => True) a0 n0 l) :
    CallC Tryd.prog 3 #[.int .i64 f, .slice a0 n0 c0, .agg #[.int .i64 fa, .int .i64 fp], .int .i64 proto] W fun v w' => v = .bool true ∧ Ext No W w' := by
  have hm0 := hx.max
  have hqW : ∀ b, No b → W.heap.size ≤ b := fun _ h => h.elim
  refine fn_intro tabOk Tryd.func3 (by kernel_rfl) rfl Tryd.ntmps3 (Nat.le_of_ble_eq_true rfl) ?_
  have hS := St.start W No
  (conv => whnf)
  refine hS.new (fun bf w' hbf hS => ?_)
  replace hS : St W No w' [blk bf 24 [.int .i64 fa, .int .i64 fp]] := hS
  (conv => whnf)
  refine (born_ok' (hE.ext hS.ext fun _ h => h.elim) hS.ext.size).mono ?_
  rintro v w' ⟨rfl, hx'⟩
  replace hS := hS.no hx'
  clear hx'
  (conv => whnf)
  refine brD (fun h1 => ?_) (fun h1 => ?_)
  · repeat' ((conv => whnf); first | refine RetC.mk ?_ | refine NzC.mk (by decide) ?_ | refine RngC.mk (by omega) (by omega) ?_ | refine IdxC.mk (by omega) (by omega) ?_ | refine brD (fun _ => ?_) (fun _ => ?_) | refine brND (fun _ => ?_) (fun _ => ?_) | refine brN (fun _ => ?_) (fun _ => ?_) | refine brI (fun _ => ?_) (fun _ => ?_))
    exact ⟨rfl, hS.ext⟩
  (conv => whnf)
  refine brD (fun h2 => ?_) (fun h2 => ?_)
  · repeat' ((conv => whnf); first | refine RetC.mk ?_ | refine NzC.mk (by decide) ?_ | refine RngC.mk (by omega) (by omega) ?_ | refine IdxC.mk (by omega) (by omega) ?_ | refine brD (fun _ => ?_) (fun _ => ?_) | refine brND (fun _ => ?_) (fun _ => ?_) | refine brN (fun _ => ?_) (fun _ => ?_) | refine brI (fun _ => ?_) (fun _ => ?_))
    exact ⟨rfl, hS.ext⟩
  have hf : f = 0 ∨ f = 1 := by omega
  (conv => whnf)
  refine brD (fun h3 => ?_) (fun h3 => ?_)
  · repeat' ((conv => whnf); first | refine RetC.mk ?_ | refine NzC.mk (by decide) ?_ | refine RngC.mk (by omega) (by omega) ?_ | refine IdxC.mk (by omega) (by omega) ?_ | refine brD (fun _ => ?_) (fun _ => ?_) | refine brND (fun _ => ?_) (fun _ => ?_) | refine brN (fun _ => ?_) (fun _ => ?_) | refine brI (fun _ => ?_) (fun _ => ?_))
    exact ⟨rfl, hS.ext⟩
  (conv => whnf)
  refine brD (fun h4 => ?_) (fun h4 => ?_)
  · repeat' ((conv => whnf); first | refine RetC.mk ?_ | refine NzC.mk (by decide) ?_ | refine RngC.mk (by omega) (by omega) ?_ | refine IdxC.mk (by omega) (by omega) ?_ | refine brD (fun _ => ?_) (fun _ => ?_) | refine brND (fun _ => ?_) (fun _ => ?_) | refine brN (fun _ => ?_) (fun _ => ?_) | refine brI (fun _ => ?_) (fun _ => ?_))
    exact ⟨rfl, hS.ext⟩
  obtain ⟨z1, z2, _⟩ := take0 (pr := 1) hf (by decide) 0 0
  have z3 : ∀ pr : Int, pr ≠ 0 → SA f pr fa fp [] (((WorldS.born ruT).ticks f 10).2.deliver 0).2 := fun pr hp => (take0 hf hp fa fp).2.2
  (conv => whnf)
  refine hS.lit (cs := encRule ⟨true, true, 0, 1, 65535⟩) Tryd.underlying33 (sz := 5) (by kernel_rfl) (z := .agg (encRule noRule).toArray) (by kernel_rfl) rfl rfl (by rfl) (fun br w' hbr hS => ?_)
  (conv => whnf)
  refine (wnew_ok (xs := ruT) (Slc.of_blk codRule (hS.blk 1 rfl) rfl (by simp [ruT]) (fun _ _ => trivial) rfl) (by decide) (hE.ext hS.ext fun _ h => h.elim) hS.ext.size (by decide)).mono ?_
  rintro v w4 ⟨A, rfl, hx4, hst4, hf4⟩
  replace hS := hS.madeAll hx4 hst4.has hf4
  replace hS : St W No w4 ([blk bf 24 [.int .i64 fa, .int .i64 fp]] ++ (worldH A (.born ruT) ++ [])) := hS.weaken (by rw [List.append_nil]; exact List.Sublist.cons_cons _ (List.Sublist.cons _ (List.Sublist.refl _)))
  have hO := hst4.ok
  clear hst4 hf4 hx4
  generalize WorldS.born ruT = V at hS hO z1 z2 z3
  (conv => whnf)
  refine loopR tabOk (fun σ w' r => ∃ (i : Nat) (A' : WorldA) (W' : WorldS), σ = [(12, .int .i64 i), (10, .pointer (some ⟨A.w, 0, none⟩)), (6, .pointer (some ⟨bf, 0, none⟩)), (3, .int .i64 proto), (1, .slice a0 n0 c0), (0, .int .i64 f)] ∧ r = 10 - i ∧ i ≤ 10 ∧ A'.w = A.w ∧ WOk (34 * i) W' ∧ V.ticks f 10 = W'.ticks f (10 - i) ∧ St W No w' ([blk bf 24 [.int .i64 fa, .int .i64 fp]] ++ (worldH A' W' ++ [])))
    (σ' := [(12, .int .i64 ((0 : Nat) : Int)), (10, .pointer (some ⟨A.w, 0, none⟩)), (6, .pointer (some ⟨bf, 0, none⟩)), (3, .int .i64 proto), (1, .slice a0 n0 c0), (0, .int .i64 f)]) (n := 10) ⟨rfl, rfl, rfl, rfl, rfl, rfl, trivial⟩ ⟨0, A, V, rfl, rfl, Nat.zero_le _, rfl, hO, rfl, hS⟩ ?_
  clear hS hO
  rintro _ w5 r ⟨i, A', W', rfl, rfl, hi, hA, hO, hr, hS⟩
  rw [← hA]
  (conv => whnf)
  refine brD (fun h5 => ?_) (fun h5 => ?_)
  · obtain ⟨j, hj⟩ : ∃ j, 10 - i = j + 1 := ⟨10 - i - 1, by omega⟩
    rw [hj] at hr
    (conv => whnf)
    refine (wtick_ok f (St.stands hS hE hO) (by omega)).mono ?_
    rintro v w6 ⟨rfl, A3, hA3, ht⟩
    replace hS := St.callAt hS ht
    have he : (W'.tick f).1 = 0 := by
      refine Classical.byContradiction fun h => ?_
      rw [hr, show W'.ticks f (j + 1) = if (W'.tick f).1 ≠ 0 then W'.tick f else (W'.tick f).2.ticks f j from rfl, if_pos h] at z1
      exact h z1
    have hr2 : V.ticks f 10 = (W'.tick f).2.ticks f j := by
      rw [hr, show W'.ticks f (j + 1) = if (W'.tick f).1 ≠ 0 then W'.tick f else (W'.tick f).2.ticks f j from rfl, if_neg (fun h => h he)]
    rw [he]
    (conv => whnf)
    refine RngC.mk (by omega) (by omega) ?_
    (conv => whnf)
    refine LoopE.mk ⟨_, [(12, .int .i64 ((i + 1 : Nat) : Int)), (10, _), (6, _), (3, _), (1, _), (0, _)], ?_, ⟨rfl, rfl, rfl, rfl, rfl, rfl, trivial⟩, ⟨i + 1, A3, (W'.tick f).2, rfl, rfl, by omega, hA3, (hO.tick (by omega) f).mono (by omega), by rw [hr2]; congr 1; omega, hS⟩⟩
    omega
  obtain rfl : i = 10 := by omega
  rw [hr] at z2 z3
  change (W'.deliver 0).1 = 0 at z2
  change ∀ pr : Int, pr ≠ 0 → SA f pr fa fp [] (W'.deliver 0).2 at z3
  clear hr z1 h5 hi
  (conv => whnf)
  refine (wdeliver_ok 0 (St.stands hS hE hO)).mono ?_
  rintro v w6 ⟨rfl, A3, hA3, ht⟩
  replace hS := St.callAt hS ht
  replace hO := (hO.deliver 0).mono (k := 1000) (by decide)
  rw [z2]
  rw [← hA3]
  generalize (W'.deliver 0).2 = V at hS hO z3
  generalize A3 = A at hS
  clear ht hA3 z2 hA
  have hSA := z3
  clear z3
  (conv => whnf)
  refine brD (fun h6 => ?_) (fun h6 => ?_)
  · skip
    (conv => whnf)
    refine loopR tabOk (fun σ w' q => ∃ (i : Nat) (A' : WorldA) (V' : WorldS) (D : List (Int × Int)) (a : Option Addr) (c : Nat) (ports : List Int), σ = [(16, .int .i64 i), (15, .slice a i c), (14, .int .i64 (3)), (13, .int .i64 (1)), (10, .pointer (some ⟨A.w, 0, none⟩)), (6, .pointer (some ⟨bf, 0, none⟩)), (3, .int .i64 proto), (1, .slice a0 n0 c0), (0, .int .i64 f)] ∧ q = n0 - i ∧ i ≤ n0 ∧ ports.length = i ∧ D.length ≤ i ∧ A'.w = A.w ∧ WOk (1000 + i) V' ∧ SA f (2) fa fp D V' ∧ (i = 0 ∨ (proto = (2) ∧ endB fa fp = true)) ∧ PortsOf (2000 + f * 24) D l i ports ∧ St W No w' ([blk bf 24 [.int .i64 fa, .int .i64 fp], ownL 3 1 encI (.slice a i c) ports] ++ (worldH A' V' ++ [])))
      (σ' := [(16, .int .i64 ((0 : Nat) : Int)), (15, .slice none 0 0), (14, .int .i64 (3)), (13, .int .i64 (1)), (10, .pointer (some ⟨A.w, 0, none⟩)), (6, .pointer (some ⟨bf, 0, none⟩)), (3, .int .i64 proto), (1, .slice a0 n0 c0), (0, .int .i64 f)]) (n := n0) ⟨rfl, rfl, rfl, rfl, rfl, rfl, rfl, rfl, rfl, trivial⟩ ⟨0, A, V, [], none, 0, [], rfl, rfl, Nat.zero_le _, rfl, Nat.le_refl _, rfl, hO, hSA (2) (by decide), .inl rfl, fun k e h => absurd h (Nat.not_lt_zero _), ((hS.addNil 3 1 encI).perm List.perm_append_comm).perm (List.perm_append_comm_assoc _ _ _)⟩ ?_
    clear hS hSA hO
    rintro _ w7 q ⟨i, A', V', D, a, c, ports, rfl, rfl, hi, hpl, hDl, hA, hO, hSA, hpf, hPO, hS⟩
    have h7s : W.heap.size ≤ w7.heap.size := hS.ext.size
    (conv => whnf)
    refine brD (fun h7 => ?_) (fun h7 => ?_)
    · obtain ⟨b0, o0, e, hek, _, rfl, hb0, hc⟩ := hx.at (k := i) (by omega)
      have hbfl := (hS.blk 0 rfl).lt
      (conv => whnf)
      (refine drawS tabOk mixed [] (fun d => w7.heap.size ≤ d) [0, 1, 2, 3, 4, 5, 6, 7, 8, 9] (by kernel_rfl) ?_; rintro w1 rfl; replace hS := hS.drew)
      have hK := hS.ref (fun d => w7.heap.size ≤ d)
      repeat' ((conv => whnf); first | refine IdxC.mk (by omega) (by omega) ?_ | refine hS.larF (l := encEnd e) rfl hc (fun h => h) (fun h => absurd (Nat.le_trans h7s h) (Nat.not_le.2 hb0)) ?_ | refine hS.laXF 0 rfl rfl (Nat.not_le.2 hbfl) ?_)
      refine hS.newT hK (fun bp w' hbp hK hS => KeepC.mk hK ?_)
      replace hS := hS.perm List.perm_append_comm
      (conv => whnf)
      refine hS.stK hK 0 rfl (Nat.le_of_ble_eq_true rfl) rfl hbp (fun w' hK hS => KeepC.mk hK ?_)
      clear hK
      replace hS : St W No w' ([blk bp 37 (encPkt ⟨proto, e.1, e.2, fa, fp, (1)⟩), blk bf 24 [.int .i64 fa, .int .i64 fp], ownL 3 1 encI (.slice a i c) ports] ++ (worldH A' V' ++ [])) := hS
      (conv => whnf)
      refine hS.laX 0 rfl rfl ?_
      (conv => whnf)
      refine (perror_ok ⟨proto, e.1, e.2, fa, fp, (1)⟩ _).mono ?_
      rintro v w' ⟨rfl, hx'⟩
      replace hS := hS.no hx'
      clear hx'
      (conv => whnf)
      refine brD (fun h8 => ?_) (fun h8 => ?_)
      · repeat' ((conv => whnf); first | refine RetC.mk ?_ | refine NzC.mk (by decide) ?_ | refine RngC.mk (by omega) (by omega) ?_ | refine IdxC.mk (by omega) (by omega) ?_ | refine brD (fun _ => ?_) (fun _ => ?_) | refine brND (fun _ => ?_) (fun _ => ?_) | refine brN (fun _ => ?_) (fun _ => ?_) | refine brI (fun _ => ?_) (fun _ => ?_))
        exact ⟨rfl, hS.ext⟩
      have herr : (⟨proto, e.1, e.2, fa, fp, (1)⟩ : PktS).err = 0 := by omega
      obtain ⟨hp12, _, hfar⟩ := err_facts herr
      dsimp only at hp12 hfar
      have heq : proto = (2) := h6
      rw [heq] at herr hS ⊢
      obtain ⟨i1, D', j, i2, i3, i4, i5, i6⟩ := hSA.inside hf (a := e.1) (b := e.2) (by omega) herr
      rw [show flT (2) = (1) from rfl] at i1 i2 i6
      (conv => whnf)
      refine hS.laX 0 rfl rfl ?_
      (conv => whnf)
      rw [← hA]
      refine (winside_ok ⟨(2), e.1, e.2, fa, fp, (1)⟩ (St.stands hS hE hO) (by omega)).mono ?_
      rintro v w' ⟨rfl, ht⟩
      replace hS := St.callAt hS ht
      replace hO := hO.inside ⟨(2), e.1, e.2, fa, fp, (1)⟩
      clear ht
      rw [i1]
      generalize (V'.inside ⟨(2), e.1, e.2, fa, fp, (1)⟩).2.2 = V2 at hS hO i2
      generalize hpk : (V'.inside ⟨(2), e.1, e.2, fa, fp, (1)⟩).2.1 = pk at i6
      (conv => whnf)
      refine hS.new (fun bx w' hbx hS => ?_)
      replace hS := hS.perm List.perm_append_comm
      (conv => whnf)
      refine hS.st 0 rfl (Nat.le_of_ble_eq_true rfl) rfl (fun w' hS => ?_)
      replace hS : St W No w' ([blk bx 37 (encPkt pk), blk bp 37 (encPkt ⟨(2), e.1, e.2, fa, fp, (1)⟩), blk bf 24 [.int .i64 fa, .int .i64 fp], ownL 3 1 encI (.slice a i c) ports] ++ (worldH A' V2 ++ [])) := hS
      (conv => whnf)
      refine hS.ld 0 rfl (v := .int .i64 pk.sp) rfl ?_
      rw [i6]
      (conv => whnf)
      refine hS.litX (cs := [.int .i64 (2000 + f * 24 + j)]) Tryd.underlying35 (sz := 1) (by kernel_rfl) (z := .int .i64 0) (by kernel_rfl) rfl rfl (by rfl) (fun bl w' hbl hx1 hS => ?_)
      clear hx1
      replace hS := hS.perm List.perm_append_comm
      replace hS : St W No w' ([blk bl 3 [.int .i64 (2000 + f * 24 + j)], blk bx 37 (encPkt pk), blk bp 37 (encPkt ⟨(2), e.1, e.2, fa, fp, (1)⟩), blk bf 24 [.int .i64 fa, .int .i64 fp], ownL 3 1 encI (.slice a i c) ports] ++ (worldH A' V2 ++ [])) := hS
      (conv => whnf)
      refine hS.appX codInt 4 (ys := [2000 + f * 24 + j]) (G := fun _ => True) Tryd.underlying35 (bytes := 8) (by kernel_rfl) (z := .int .i64 0) (by kernel_rfl) rfl rfl (Slc.of_blk codInt (hS.blk 0 rfl) rfl (by simp) (fun _ _ => trivial) rfl) (by rw [hpl]; unfold maxLen; omega) (by rw [hpl]; omega) (fun a5 c5 w' hx2 hS => ?_)
      clear hx2
      rw [hpl] at hS ⊢
      replace hS : St W No w' ([blk bf 24 [.int .i64 fa, .int .i64 fp], ownL 3 1 encI (.slice a5 (i + 1) c5) (ports ++ [2000 + f * 24 + j])] ++ (worldH A' V2 ++ [])) := hS.weaken (List.sublist_append_right [_, _, _] _)
      have hPO2 : PortsOf (2000 + f * 24) D' l (i + 1) (ports ++ [2000 + f * 24 + j]) := by
        intro k x hk hkx
        by_cases hki : k = i
        · subst hki
          rw [hek] at hkx
          obtain rfl := Option.some.inj hkx
          exact ⟨j, by rw [List.getElem?_append_right (by omega), hpl, Nat.sub_self]; rfl, i4⟩
        · obtain ⟨j2, g1, g2⟩ := hPO k x (by omega) hkx
          exact ⟨j2, by rw [List.getElem?_append_left (List.getElem?_eq_some_iff.1 g1).1]; exact g1, i3 _ _ g2⟩
      (conv => whnf)
      refine RngC.mk (by omega) (by omega) ?_
      (conv => whnf)
      refine LoopE.mk ⟨_, [(16, .int .i64 ((i + 1 : Nat) : Int)), (15, _), (14, _), (13, _), (10, _), (6, _), (3, _), (1, _), (0, _)], ?_, ⟨rfl, rfl, rfl, rfl, rfl, rfl, rfl, rfl, rfl, trivial⟩, ⟨i + 1, A', V2, D', a5, c5, ports ++ [2000 + f * 24 + j], rfl, rfl, by omega, by simp [hpl], by omega, rfl, hO, i2, .inr ⟨rfl, hfar⟩, hPO2, hS⟩⟩
      omega
    obtain rfl : i = n0 := by omega
    obtain ⟨heq, hfar⟩ := hpf.resolve_left (by omega)
    have hp12 : (2 : Int) = 1 ∨ (2 : Int) = 2 := by decide
    obtain ⟨t1, hSC⟩ := take1 hf hp12 hSA
    obtain ⟨t2, t3, hSD⟩ := take2 hf hp12 hSC
    rw [← hA]
    generalize A' = A at hS ⊢
    clear h7 hSA hpf
    replace hO := hO.mono (k := 2000) (by omega)
    have hO3 := tk_ok (f := f) hO
    (conv => whnf)
    refine loopR tabOk (fun σ w' q => ∃ (k : Nat) (A' : WorldA), σ = [(20, .int .i64 k), (15, .slice a i c), (14, .int .i64 (3)), (10, .pointer (some ⟨A.w, 0, none⟩)), (6, .pointer (some ⟨bf, 0, none⟩)), (3, .int .i64 proto), (1, .slice a0 i c0), (0, .int .i64 f)] ∧ q = 3 - k ∧ k ≤ 3 ∧ A'.w = A.w ∧ St W No w' ([blk bf 24 [.int .i64 fa, .int .i64 fp], ownL 3 1 encI (.slice a i c) ports] ++ (worldH A' (V'.tk f k) ++ [])))
      (σ' := [(20, .int .i64 ((0 : Nat) : Int)), (15, .slice a i c), (14, .int .i64 (3)), (10, .pointer (some ⟨A.w, 0, none⟩)), (6, .pointer (some ⟨bf, 0, none⟩)), (3, .int .i64 proto), (1, .slice a0 i c0), (0, .int .i64 f)]) (n := 3) ⟨rfl, rfl, rfl, rfl, rfl, rfl, rfl, rfl, trivial⟩ ⟨0, A, rfl, rfl, Nat.zero_le _, rfl, hS⟩ ?_
    clear hS
    rintro _ w8 q ⟨k, A', rfl, rfl, hk, hA, hS⟩
    rw [← hA]
    (conv => whnf)
    refine brD (fun h8 => ?_) (fun h8 => ?_)
    · have hOk := hO3 k (by omega)
      have he := t1 k (by omega)
      (conv => whnf)
      refine (wtick_ok f (St.stands hS hE hOk) (by omega)).mono ?_
      rintro v w' ⟨rfl, A2, hA2, ht⟩
      replace hS := St.callAt hS ht
      rw [he]
      (conv => whnf)
      refine RngC.mk (by omega) (by omega) ?_
      (conv => whnf)
      refine LoopE.mk ⟨_, [(20, .int .i64 ((k + 1 : Nat) : Int)), (15, _), (14, _), (10, _), (6, _), (3, _), (1, _), (0, _)], ?_, ⟨rfl, rfl, rfl, rfl, rfl, rfl, rfl, rfl, trivial⟩, ⟨k + 1, A2, rfl, rfl, by omega, hA2, hS⟩⟩
      omega
    obtain rfl : k = 3 := by omega
    replace hO := hO3 3 (by omega)
    generalize V'.tk f 3 = U at hS hO t2 t3 hSD
    generalize A' = A at hS ⊢
    clear h8 hk t1 hSC hO3 hA
    (conv => whnf)
    refine loopR tabOk (fun σ w' q => ∃ (k : Nat) (A' : WorldA), σ = [(21, .int .i64 k), (15, .slice a i c), (14, .int .i64 (3)), (10, .pointer (some ⟨A.w, 0, none⟩)), (6, .pointer (some ⟨bf, 0, none⟩)), (3, .int .i64 proto), (1, .slice a0 i c0), (0, .int .i64 f)] ∧ q = 10 - k ∧ k ≤ 10 ∧ A'.w = A.w ∧ St W No w' ([blk bf 24 [.int .i64 fa, .int .i64 fp], ownL 3 1 encI (.slice a i c) ports] ++ (worldH A' (U.dl k) ++ [])))
      (σ' := [(21, .int .i64 ((0 : Nat) : Int)), (15, .slice a i c), (14, .int .i64 (3)), (10, .pointer (some ⟨A.w, 0, none⟩)), (6, .pointer (some ⟨bf, 0, none⟩)), (3, .int .i64 proto), (1, .slice a0 i c0), (0, .int .i64 f)]) (n := 10) ⟨rfl, rfl, rfl, rfl, rfl, rfl, rfl, rfl, trivial⟩ ⟨0, A, rfl, rfl, Nat.zero_le _, rfl, hS⟩ ?_
    clear hS
    rintro _ w9 q ⟨k, A', rfl, rfl, hk, hA, hS⟩
    rw [← hA]
    have hOk := dlT_ok hO k
    (conv => whnf)
    refine brD (fun h8 => ?_) (fun h8 => ?_)
    · (conv => whnf)
      refine (wdeliver_ok 0 (St.stands hS hE hOk)).mono ?_
      rintro v w' ⟨rfl, A2, hA2, ht⟩
      replace hS := St.callAt hS ht
      (conv => whnf)
      refine RngC.mk (by omega) (by omega) ?_
      (conv => whnf)
      refine LoopE.mk ⟨_, [(21, .int .i64 ((k + 1 : Nat) : Int)), (15, _), (14, _), (10, _), (6, _), (3, _), (1, _), (0, _)], ?_, ⟨rfl, rfl, rfl, rfl, rfl, rfl, rfl, rfl, trivial⟩, ⟨k + 1, A2, rfl, rfl, by omega, hA2, hS⟩⟩
      omega
    obtain rfl : k = 10 := by omega
    clear hO
    generalize U.dl 10 = U at hS hOk t2 t3 hSD
    generalize A' = A at hS ⊢
    clear h8 hk hA
    (conv => whnf)
    refine (wdown_ok f (St.stands hS hE hOk)).mono ?_
    rintro v w' ⟨rfl, ht⟩
    replace hS := St.callAt hS ht
    replace hOk := hOk.down f
    rw [t2]
    generalize (U.down f).2 = U at hS hOk t3 hSD
    clear ht t2
    (conv => whnf)
    refine RngC.mk (by omega) (by omega) ?_
    (conv => whnf)
    have hO3 := tk_ok (f := 1 - f) hOk
    refine loopR tabOk (fun σ w' q => ∃ (k : Nat) (A' : WorldA), σ = [(23, .int .i64 k), (22, .int .i64 (1 - f)), (15, .slice a i c), (14, .int .i64 (3)), (10, .pointer (some ⟨A.w, 0, none⟩)), (6, .pointer (some ⟨bf, 0, none⟩)), (3, .int .i64 proto), (1, .slice a0 i c0)] ∧ q = 10 - k ∧ k ≤ 10 ∧ A'.w = A.w ∧ St W No w' ([blk bf 24 [.int .i64 fa, .int .i64 fp], ownL 3 1 encI (.slice a i c) ports] ++ (worldH A' (U.tk (1 - f) k) ++ [])))
      (σ' := [(23, .int .i64 ((0 : Nat) : Int)), (22, .int .i64 (1 - f)), (15, .slice a i c), (14, .int .i64 (3)), (10, .pointer (some ⟨A.w, 0, none⟩)), (6, .pointer (some ⟨bf, 0, none⟩)), (3, .int .i64 proto), (1, .slice a0 i c0)]) (n := 10) ⟨rfl, rfl, rfl, rfl, rfl, rfl, rfl, rfl, trivial⟩ ⟨0, A, rfl, rfl, Nat.zero_le _, rfl, hS⟩ ?_
    clear hS
    rintro _ w10 q ⟨k, A', rfl, rfl, hk, hA, hS⟩
    rw [← hA]
    (conv => whnf)
    refine brD (fun h8 => ?_) (fun h8 => ?_)
    · have hOk := hO3 k (by omega)
      have he := t3 k (by omega)
      (conv => whnf)
      refine (wtick_ok (1 - f) (St.stands hS hE hOk) (by omega)).mono ?_
      rintro v w' ⟨rfl, A2, hA2, ht⟩
      replace hS := St.callAt hS ht
      rw [he]
      (conv => whnf)
      refine RngC.mk (by omega) (by omega) ?_
      (conv => whnf)
      refine LoopE.mk ⟨_, [(23, .int .i64 ((k + 1 : Nat) : Int)), (22, _), (15, _), (14, _), (10, _), (6, _), (3, _), (1, _)], ?_, ⟨rfl, rfl, rfl, rfl, rfl, rfl, rfl, rfl, trivial⟩, ⟨k + 1, A2, rfl, rfl, by omega, hA2, hS⟩⟩
      omega
    obtain rfl : k = 10 := by omega
    have hO := hO3 10 (by omega)
    generalize U.tk (1 - f) 10 = U at hS hO hSD
    generalize A' = A at hS ⊢
    clear h8 hk t3 hO3 hA hOk
    (conv => whnf)
    refine loopR tabOk (fun σ w' q => ∃ (k : Nat) (A' : WorldA), σ = [(24, .int .i64 k), (22, .int .i64 (1 - f)), (15, .slice a i c), (14, .int .i64 (3)), (10, .pointer (some ⟨A.w, 0, none⟩)), (6, .pointer (some ⟨bf, 0, none⟩)), (3, .int .i64 proto), (1, .slice a0 i c0)] ∧ q = 10 - k ∧ k ≤ 10 ∧ A'.w = A.w ∧ St W No w' ([blk bf 24 [.int .i64 fa, .int .i64 fp], ownL 3 1 encI (.slice a i c) ports] ++ (worldH A' (U.dl k) ++ [])))
      (σ' := [(24, .int .i64 ((0 : Nat) : Int)), (22, .int .i64 (1 - f)), (15, .slice a i c), (14, .int .i64 (3)), (10, .pointer (some ⟨A.w, 0, none⟩)), (6, .pointer (some ⟨bf, 0, none⟩)), (3, .int .i64 proto), (1, .slice a0 i c0)]) (n := 10) ⟨rfl, rfl, rfl, rfl, rfl, rfl, rfl, rfl, trivial⟩ ⟨0, A, rfl, rfl, Nat.zero_le _, rfl, hS⟩ ?_
    clear hS
    rintro _ w11 q ⟨k, A', rfl, rfl, hk, hA, hS⟩
    rw [← hA]
    have hOk := dlT_ok hO k
    (conv => whnf)
    refine brD (fun h8 => ?_) (fun h8 => ?_)
    · (conv => whnf)
      refine (wdeliver_ok 0 (St.stands hS hE hOk)).mono ?_
      rintro v w' ⟨rfl, A2, hA2, ht⟩
      replace hS := St.callAt hS ht
      (conv => whnf)
      refine RngC.mk (by omega) (by omega) ?_
      (conv => whnf)
      refine LoopE.mk ⟨_, [(24, .int .i64 ((k + 1 : Nat) : Int)), (22, _), (15, _), (14, _), (10, _), (6, _), (3, _), (1, _)], ?_, ⟨rfl, rfl, rfl, rfl, rfl, rfl, rfl, rfl, trivial⟩, ⟨k + 1, A2, rfl, rfl, by omega, hA2, hS⟩⟩
      omega
    obtain rfl : k = 10 := by omega
    clear hO
    generalize U.dl 10 = U at hS hOk hSD
    generalize A' = A at hS ⊢
    clear h8 hk hA
    (conv => whnf)
    refine (wswitch_ok hS.has.right.left).mono ?_
    rintro v w' ⟨rfl, hx'⟩
    replace hS := hS.no hx'
    clear hx'
    rw [hSD.to]
    (conv => whnf)
    refine brND (fun h => absurd rfl h) (fun _ => ?_)
    (conv => whnf)
    refine loopR tabOk (fun σ w' q => ∃ (g : Nat) (V' : WorldS), σ = [(27, .int .i64 g), (15, .slice a i c), (14, .int .i64 (3)), (10, .pointer (some ⟨A.w, 0, none⟩)), (6, .pointer (some ⟨bf, 0, none⟩)), (3, .int .i64 proto), (1, .slice a0 i c0)] ∧ q = i - g ∧ g ≤ i ∧ WOk (5000 + g) V' ∧ SD f (2) fa fp D V' ∧ St W No w' ([blk bf 24 [.int .i64 fa, .int .i64 fp], ownL 3 1 encI (.slice a i c) ports] ++ (worldH A V' ++ [])))
      (σ' := [(27, .int .i64 ((0 : Nat) : Int)), (15, .slice a i c), (14, .int .i64 (3)), (10, .pointer (some ⟨A.w, 0, none⟩)), (6, .pointer (some ⟨bf, 0, none⟩)), (3, .int .i64 proto), (1, .slice a0 i c0)]) (n := i) ⟨rfl, rfl, rfl, rfl, rfl, rfl, rfl, trivial⟩ ⟨0, U, rfl, rfl, Nat.zero_le _, hOk.mono (by omega), hSD, hS⟩ ?_
    clear hS hSD hOk
    rintro _ w12 q ⟨g, V', rfl, rfl, hg, hO, hSD, hS⟩
    (conv => whnf)
    refine brD (fun h9 => ?_) (fun h9 => ?_)
    · obtain ⟨b0, o0, e, hek, _, rfl, hb0, hc⟩ := hx.at (k := g) (by omega)
      obtain ⟨j, hpj, hDj⟩ := hPO g e (by omega) hek
      obtain ⟨b3, o3, x, hxp, _, rfl, hb3, hcp⟩ := (ownL_slc (G := fun _ => True) codInt (hS.get 1 rfl) (fun _ _ => trivial)).at (k := g) (by omega)
      rw [hpj] at hxp
      obtain rfl := Option.some.inj hxp
      obtain ⟨i1, i2, i3, i4⟩ := hSD.outside hf hp12 hfar hDj
      rw [show bkT (2) = (3) from rfl] at i1 i2 i3 i4
      subst heq
      have hbfl := (hS.blk 0 rfl).lt
      have hT8 : ¬ (inF (worldH A V') bf ∨ w12.heap.size ≤ bf) := by
        rintro (h | h)
        · exact hS.frontOut (List.mem_singleton.2 rfl) (inF_app.2 (.inr (inF_app.2 (.inl h))))
        · omega
      have hT9 : ¬ (inF (worldH A V') b3 ∨ w12.heap.size ≤ b3) := by
        rintro (h | h)
        · have hS' := (show St W No w12 (_ :: _ :: (worldH A V' ++ [])) from hS).perm (List.Perm.swap _ _ _)
          exact hS'.frontOut (b := b3) (by simp [ownL, own, Value.ownBlock]) (inF_app (A := [_]).2 (.inr (inF_app.2 (.inl h))))
        · omega
      (conv => whnf)
      refine DrawC.cut (fun σ w' => ∃ (bx : Nat) (V2 : WorldS) (pk : PktS), σ = [(29, .nilIface), (28, .pointer (some ⟨bx, 0, none⟩)), (27, .int .i64 g), (15, .slice (some ⟨b3, o3, none⟩) i c), (14, .int .i64 (3)), (10, .pointer (some ⟨A.w, 0, none⟩)), (6, .pointer (some ⟨bf, 0, none⟩)), (3, .int .i64 (2)), (1, .slice (some ⟨b0, o0, none⟩) i c0)] ∧ pk.da = e.1 ∧ pk.dp = e.2 ∧ WOk (5000 + (g + 1)) V2 ∧ SD f (2) fa fp D V2 ∧ St W No w' ([blk bx 37 (encPkt pk), blk bf 24 [.int .i64 fa, .int .i64 fp], ownL 3 1 encI (.slice (some ⟨b3, o3, none⟩) i c) ports] ++ (worldH A V2 ++ []))) ?_ ?_
      · refine drawT tabOk mixed [] (fun d => inF (worldH A V') d ∨ w12.heap.size ≤ d) (.take 0 (.take 1 (.take 2 (.take 3 (.take 4 (.take 5 (.take 6 (.take 7 (.take 8 (.take 9 (.alt 10 (.take 11 (.take 12 (.take 13 (.alt 14 (.alt 15 (.take 16 .fin) .fin) .fin)))) (.alt 14 (.alt 10 (.take 11 (.take 12 (.take 13 (.alt 15 (.take 16 .fin) .fin)))) .fin) .fin)))))))))))) (by kernel_rfl) ?_
        rintro w1 rfl
        replace hS := hS.drew
        have hK := hS.ref (fun d => inF (worldH A V') d ∨ w12.heap.size ≤ d)
        have hcp := (ownL_slc (G := fun _ => True) codInt (hS.get 1 rfl) (fun _ _ => trivial)).at (k := g) (by omega)
        obtain ⟨b4, o4, x4, hx4, _, hb4, _, hcp⟩ := hcp
        cases hb4
        obtain rfl := Option.some.inj (hpj.symm.trans hx4)
        repeat' ((conv => whnf); first | refine And.intro ?_ ?_ | refine hS.laXF 0 rfl rfl hT8 ?_ | refine IdxC.mk (by omega) (by omega) ?_ | refine ldFc (hcp.one 0 (v := .int .i64 (2000 + f * 24 + j)) rfl) hT9 ?_)
        · (conv => whnf)
          refine (woutside_ok ⟨(2), fa, fp, 1, 2000 + f * 24 + j, (3)⟩ (St.stands hS hE hO) (by omega)).mono ?_
          rintro v w' ⟨rfl, ht⟩
          replace hS := St.callAt hS ht
          replace hO := hO.outside ⟨(2), fa, fp, 1, 2000 + f * 24 + j, (3)⟩
          replace hK := hK.trans (ht.ext.mono fun d h => .inl h)
          refine KeepC.mk hK ?_
          clear ht
          rw [i1]
          generalize (V'.outside ⟨(2), fa, fp, 1, 2000 + f * 24 + j, (3)⟩).2.2 = V2 at hS hO i4
          generalize hpk : (V'.outside ⟨(2), fa, fp, 1, 2000 + f * 24 + j, (3)⟩).2.1 = pk at i2 i3
          (conv => whnf)
          refine hS.newT hK (fun bx w' hbx hK2 hS => KeepC.mk hK2 ?_)
          replace hS := hS.perm List.perm_append_comm
          (conv => whnf)
          refine hS.stK hK2 0 rfl (Nat.le_of_ble_eq_true rfl) rfl (.inr (Nat.le_trans hK.size hbx)) (fun w' hK3 hS => KeepC.mk hK3 ?_)
          exact CutE.mk ⟨[(29, _), (28, _), (27, _), (15, _), (14, _), (10, _), (6, _), (3, _), (1, _)], ⟨rfl, rfl, rfl, rfl, rfl, rfl, rfl, rfl, rfl, trivial⟩, bx, V2, pk, rfl, i2, i3, hO.mono (by omega), i4, hS⟩
        · (conv => whnf)
          refine hS.newT hK (fun bx w' hbx hK2 hS => KeepC.mk hK2 ?_)
          replace hS := hS.perm List.perm_append_comm
          replace hS : St W No w' ([blk bx 37 (encPkt noPkt), blk bf 24 [.int .i64 fa, .int .i64 fp], ownL 3 1 encI (.slice (some ⟨b3, o3, none⟩) i c) ports] ++ (worldH A V' ++ [])) := hS
          (conv => whnf)
          refine (woutside_ok ⟨(2), fa, fp, 1, 2000 + f * 24 + j, (3)⟩ (St.stands hS hE hO) (by omega)).mono ?_
          rintro v w' ⟨rfl, ht⟩
          replace hS := St.callAt hS ht
          replace hO := hO.outside ⟨(2), fa, fp, 1, 2000 + f * 24 + j, (3)⟩
          replace hK2 := hK2.trans (ht.ext.mono fun d h => .inl h)
          refine KeepC.mk hK2 ?_
          clear ht
          rw [i1]
          generalize (V'.outside ⟨(2), fa, fp, 1, 2000 + f * 24 + j, (3)⟩).2.2 = V2 at hS hO i4
          generalize hpk : (V'.outside ⟨(2), fa, fp, 1, 2000 + f * 24 + j, (3)⟩).2.1 = pk at i2 i3
          (conv => whnf)
          refine hS.stK hK2 0 rfl (Nat.le_of_ble_eq_true rfl) rfl (.inr hbx) (fun w' hK3 hS => KeepC.mk hK3 ?_)
          exact CutE.mk ⟨[(29, _), (28, _), (27, _), (15, _), (14, _), (10, _), (6, _), (3, _), (1, _)], ⟨rfl, rfl, rfl, rfl, rfl, rfl, rfl, rfl, rfl, trivial⟩, bx, V2, pk, rfl, i2, i3, hO.mono (by omega), i4, hS⟩
      clear hS hSD hO i1 i2 i3 i4 hT8 hT9 hbfl hcp
      rintro _ w13 ⟨bx, V2, pk, rfl, hda, hdp, hO, hSD, hS⟩
      (conv => whnf)
      (refine drawS tabOk mixed [] No [0, 1, 2, 3, 4, 5, 6, 7, 8, 9, 10] (by kernel_rfl) ?_; rintro w1 rfl; replace hS := hS.drew)
      repeat' ((conv => whnf); first | refine hS.laXF 0 rfl rfl (fun h => h) ?_ | refine IdxC.mk (by omega) (by omega) ?_ | refine hS.larF (l := encEnd e) rfl hc (fun h => h) (fun h => h) ?_ | (refine neEnd ?_; rw [decide_eq_true ⟨hda, hdp⟩]))
      replace hS : St W No _ ([blk bf 24 [.int .i64 fa, .int .i64 fp], ownL 3 1 encI (.slice (some ⟨b3, o3, none⟩) i c) ports] ++ (worldH A V2 ++ [])) := hS.weaken (List.sublist_append_right [_] _)
      (conv => whnf)
      refine RngC.mk (by omega) (by omega) ?_
      (conv => whnf)
      refine LoopE.mk ⟨_, [(27, .int .i64 ((g + 1 : Nat) : Int)), (15, _), (14, _), (10, _), (6, _), (3, _), (1, _)], ?_, ⟨rfl, rfl, rfl, rfl, rfl, rfl, rfl, trivial⟩, ⟨g + 1, V2, rfl, rfl, by omega, hO, hSD, hS⟩⟩
      omega
    · repeat' ((conv => whnf); first | refine RetC.mk ?_ | refine NzC.mk (by decide) ?_ | refine RngC.mk (by omega) (by omega) ?_ | refine IdxC.mk (by omega) (by omega) ?_ | refine brD (fun _ => ?_) (fun _ => ?_) | refine brND (fun _ => ?_) (fun _ => ?_) | refine brN (fun _ => ?_) (fun _ => ?_) | refine brI (fun _ => ?_) (fun _ => ?_))
      exact ⟨rfl, hS.ext⟩
  · skip
    (conv => whnf)
    refine loopR tabOk (fun σ w' q => ∃ (i : Nat) (A' : WorldA) (V' : WorldS) (D : List (Int × Int)) (a : Option Addr) (c : Nat) (ports : List Int), σ = [(16, .int .i64 i), (15, .slice a i c), (14, .int .i64 (0)), (13, .int .i64 (0)), (10, .pointer (some ⟨A.w, 0, none⟩)), (6, .pointer (some ⟨bf, 0, none⟩)), (3, .int .i64 proto), (1, .slice a0 n0 c0), (0, .int .i64 f)] ∧ q = n0 - i ∧ i ≤ n0 ∧ ports.length = i ∧ D.length ≤ i ∧ A'.w = A.w ∧ WOk (1000 + i) V' ∧ SA f (1) fa fp D V' ∧ (i = 0 ∨ (proto = (1) ∧ endB fa fp = true)) ∧ PortsOf (2000 + f * 24) D l i ports ∧ St W No w' ([blk bf 24 [.int .i64 fa, .int .i64 fp], ownL 3 1 encI (.slice a i c) ports] ++ (worldH A' V' ++ [])))
      (σ' := [(16, .int .i64 ((0 : Nat) : Int)), (15, .slice none 0 0), (14, .int .i64 (0)), (13, .int .i64 (0)), (10, .pointer (some ⟨A.w, 0, none⟩)), (6, .pointer (some ⟨bf, 0, none⟩)), (3, .int .i64 proto), (1, .slice a0 n0 c0), (0, .int .i64 f)]) (n := n0) ⟨rfl, rfl, rfl, rfl, rfl, rfl, rfl, rfl, rfl, trivial⟩ ⟨0, A, V, [], none, 0, [], rfl, rfl, Nat.zero_le _, rfl, Nat.le_refl _, rfl, hO, hSA (1) (by decide), .inl rfl, fun k e h => absurd h (Nat.not_lt_zero _), ((hS.addNil 3 1 encI).perm List.perm_append_comm).perm (List.perm_append_comm_assoc _ _ _)⟩ ?_
    clear hS hSA hO
    rintro _ w7 q ⟨i, A', V', D, a, c, ports, rfl, rfl, hi, hpl, hDl, hA, hO, hSA, hpf, hPO, hS⟩
    have h7s : W.heap.size ≤ w7.heap.size := hS.ext.size
    (conv => whnf)
    refine brD (fun h7 => ?_) (fun h7 => ?_)
    · obtain ⟨b0, o0, e, hek, _, rfl, hb0, hc⟩ := hx.at (k := i) (by omega)
      have hbfl := (hS.blk 0 rfl).lt
      (conv => whnf)
      (refine drawS tabOk mixed [] (fun d => w7.heap.size ≤ d) [0, 1, 2, 3, 4, 5, 6, 7, 8, 9] (by kernel_rfl) ?_; rintro w1 rfl; replace hS := hS.drew)
      have hK := hS.ref (fun d => w7.heap.size ≤ d)
      repeat' ((conv => whnf); first | refine IdxC.mk (by omega) (by omega) ?_ | refine hS.larF (l := encEnd e) rfl hc (fun h => h) (fun h => absurd (Nat.le_trans h7s h) (Nat.not_le.2 hb0)) ?_ | refine hS.laXF 0 rfl rfl (Nat.not_le.2 hbfl) ?_)
      refine hS.newT hK (fun bp w' hbp hK hS => KeepC.mk hK ?_)
      replace hS := hS.perm List.perm_append_comm
      (conv => whnf)
      refine hS.stK hK 0 rfl (Nat.le_of_ble_eq_true rfl) rfl hbp (fun w' hK hS => KeepC.mk hK ?_)
      clear hK
      replace hS : St W No w' ([blk bp 37 (encPkt ⟨proto, e.1, e.2, fa, fp, (0)⟩), blk bf 24 [.int .i64 fa, .int .i64 fp], ownL 3 1 encI (.slice a i c) ports] ++ (worldH A' V' ++ [])) := hS
      (conv => whnf)
      refine hS.laX 0 rfl rfl ?_
      (conv => whnf)
      refine (perror_ok ⟨proto, e.1, e.2, fa, fp, (0)⟩ _).mono ?_
      rintro v w' ⟨rfl, hx'⟩
      replace hS := hS.no hx'
      clear hx'
      (conv => whnf)
      refine brD (fun h8 => ?_) (fun h8 => ?_)
      · repeat' ((conv => whnf); first | refine RetC.mk ?_ | refine NzC.mk (by decide) ?_ | refine RngC.mk (by omega) (by omega) ?_ | refine IdxC.mk (by omega) (by omega) ?_ | refine brD (fun _ => ?_) (fun _ => ?_) | refine brND (fun _ => ?_) (fun _ => ?_) | refine brN (fun _ => ?_) (fun _ => ?_) | refine brI (fun _ => ?_) (fun _ => ?_))
        exact ⟨rfl, hS.ext⟩
      have herr : (⟨proto, e.1, e.2, fa, fp, (0)⟩ : PktS).err = 0 := by omega
      obtain ⟨hp12, _, hfar⟩ := err_facts herr
      dsimp only at hp12 hfar
      have heq : proto = (1) := (by omega)
      rw [heq] at herr hS ⊢
      obtain ⟨i1, D', j, i2, i3, i4, i5, i6⟩ := hSA.inside hf (a := e.1) (b := e.2) (by omega) herr
      rw [show flT (1) = (0) from rfl] at i1 i2 i6
      (conv => whnf)
      refine hS.laX 0 rfl rfl ?_
      (conv => whnf)
      rw [← hA]
      refine (winside_ok ⟨(1), e.1, e.2, fa, fp, (0)⟩ (St.stands hS hE hO) (by omega)).mono ?_
      rintro v w' ⟨rfl, ht⟩
      replace hS := St.callAt hS ht
      replace hO := hO.inside ⟨(1), e.1, e.2, fa, fp, (0)⟩
      clear ht
      rw [i1]
      generalize (V'.inside ⟨(1), e.1, e.2, fa, fp, (0)⟩).2.2 = V2 at hS hO i2
      generalize hpk : (V'.inside ⟨(1), e.1, e.2, fa, fp, (0)⟩).2.1 = pk at i6
      (conv => whnf)
      refine hS.new (fun bx w' hbx hS => ?_)
      replace hS := hS.perm List.perm_append_comm
      (conv => whnf)
      refine hS.st 0 rfl (Nat.le_of_ble_eq_true rfl) rfl (fun w' hS => ?_)
      replace hS : St W No w' ([blk bx 37 (encPkt pk), blk bp 37 (encPkt ⟨(1), e.1, e.2, fa, fp, (0)⟩), blk bf 24 [.int .i64 fa, .int .i64 fp], ownL 3 1 encI (.slice a i c) ports] ++ (worldH A' V2 ++ [])) := hS
      (conv => whnf)
      refine hS.ld 0 rfl (v := .int .i64 pk.sp) rfl ?_
      rw [i6]
      (conv => whnf)
      refine hS.litX (cs := [.int .i64 (2000 + f * 24 + j)]) Tryd.underlying35 (sz := 1) (by kernel_rfl) (z := .int .i64 0) (by kernel_rfl) rfl rfl (by rfl) (fun bl w' hbl hx1 hS => ?_)
      clear hx1
      replace hS := hS.perm List.perm_append_comm
      replace hS : St W No w' ([blk bl 3 [.int .i64 (2000 + f * 24 + j)], blk bx 37 (encPkt pk), blk bp 37 (encPkt ⟨(1), e.1, e.2, fa, fp, (0)⟩), blk bf 24 [.int .i64 fa, .int .i64 fp], ownL 3 1 encI (.slice a i c) ports] ++ (worldH A' V2 ++ [])) := hS
      (conv => whnf)
      refine hS.appX codInt 4 (ys := [2000 + f * 24 + j]) (G := fun _ => True) Tryd.underlying35 (bytes := 8) (by kernel_rfl) (z := .int .i64 0) (by kernel_rfl) rfl rfl (Slc.of_blk codInt (hS.blk 0 rfl) rfl (by simp) (fun _ _ => trivial) rfl) (by rw [hpl]; unfold maxLen; omega) (by rw [hpl]; omega) (fun a5 c5 w' hx2 hS => ?_)
      clear hx2
      rw [hpl] at hS ⊢
      replace hS : St W No w' ([blk bf 24 [.int .i64 fa, .int .i64 fp], ownL 3 1 encI (.slice a5 (i + 1) c5) (ports ++ [2000 + f * 24 + j])] ++ (worldH A' V2 ++ [])) := hS.weaken (List.sublist_append_right [_, _, _] _)
      have hPO2 : PortsOf (2000 + f * 24) D' l (i + 1) (ports ++ [2000 + f * 24 + j]) := by
        intro k x hk hkx
        by_cases hki : k = i
        · subst hki
          rw [hek] at hkx
          obtain rfl := Option.some.inj hkx
          exact ⟨j, by rw [List.getElem?_append_right (by omega), hpl, Nat.sub_self]; rfl, i4⟩
        · obtain ⟨j2, g1, g2⟩ := hPO k x (by omega) hkx
          exact ⟨j2, by rw [List.getElem?_append_left (List.getElem?_eq_some_iff.1 g1).1]; exact g1, i3 _ _ g2⟩
      (conv => whnf)
      refine RngC.mk (by omega) (by omega) ?_
      (conv => whnf)
      refine LoopE.mk ⟨_, [(16, .int .i64 ((i + 1 : Nat) : Int)), (15, _), (14, _), (13, _), (10, _), (6, _), (3, _), (1, _), (0, _)], ?_, ⟨rfl, rfl, rfl, rfl, rfl, rfl, rfl, rfl, rfl, trivial⟩, ⟨i + 1, A', V2, D', a5, c5, ports ++ [2000 + f * 24 + j], rfl, rfl, by omega, by simp [hpl], by omega, rfl, hO, i2, .inr ⟨rfl, hfar⟩, hPO2, hS⟩⟩
      omega
    obtain rfl : i = n0 := by omega
    obtain ⟨heq, hfar⟩ := hpf.resolve_left (by omega)
    have hp12 : (1 : Int) = 1 ∨ (1 : Int) = 2 := by decide
    obtain ⟨t1, hSC⟩ := take1 hf hp12 hSA
    obtain ⟨t2, t3, hSD⟩ := take2 hf hp12 hSC
    rw [← hA]
    generalize A' = A at hS ⊢
    clear h7 hSA hpf
    replace hO := hO.mono (k := 2000) (by omega)
    have hO3 := tk_ok (f := f) hO
    (conv => whnf)
    refine loopR tabOk (fun σ w' q => ∃ (k : Nat) (A' : WorldA), σ = [(20, .int .i64 k), (15, .slice a i c), (14, .int .i64 (0)), (10, .pointer (some ⟨A.w, 0, none⟩)), (6, .pointer (some ⟨bf, 0, none⟩)), (3, .int .i64 proto), (1, .slice a0 i c0), (0, .int .i64 f)] ∧ q = 3 - k ∧ k ≤ 3 ∧ A'.w = A.w ∧ St W No w' ([blk bf 24 [.int .i64 fa, .int .i64 fp], ownL 3 1 encI (.slice a i c) ports] ++ (worldH A' (V'.tk f k) ++ [])))
      (σ' := [(20, .int .i64 ((0 : Nat) : Int)), (15, .slice a i c), (14, .int .i64 (0)), (10, .pointer (some ⟨A.w, 0, none⟩)), (6, .pointer (some ⟨bf, 0, none⟩)), (3, .int .i64 proto), (1, .slice a0 i c0), (0, .int .i64 f)]) (n := 3) ⟨rfl, rfl, rfl, rfl, rfl, rfl, rfl, rfl, trivial⟩ ⟨0, A, rfl, rfl, Nat.zero_le _, rfl, hS⟩ ?_
    clear hS
    rintro _ w8 q ⟨k, A', rfl, rfl, hk, hA, hS⟩
    rw [← hA]
    (conv => whnf)
    refine brD (fun h8 => ?_) (fun h8 => ?_)
    · have hOk := hO3 k (by omega)
      have he := t1 k (by omega)
      (conv => whnf)
      refine (wtick_ok f (St.stands hS hE hOk) (by omega)).mono ?_
      rintro v w' ⟨rfl, A2, hA2, ht⟩
      replace hS := St.callAt hS ht
      rw [he]
      (conv => whnf)
      refine RngC.mk (by omega) (by omega) ?_
      (conv => whnf)
      refine LoopE.mk ⟨_, [(20, .int .i64 ((k + 1 : Nat) : Int)), (15, _), (14, _), (10, _), (6, _), (3, _), (1, _), (0, _)], ?_, ⟨rfl, rfl, rfl, rfl, rfl, rfl, rfl, rfl, trivial⟩, ⟨k + 1, A2, rfl, rfl, by omega, hA2, hS⟩⟩
      omega
    obtain rfl : k = 3 := by omega
    replace hO := hO3 3 (by omega)
    generalize V'.tk f 3 = U at hS hO t2 t3 hSD
    generalize A' = A at hS ⊢
    clear h8 hk t1 hSC hO3 hA
    (conv => whnf)
    refine loopR tabOk (fun σ w' q => ∃ (k : Nat) (A' : WorldA), σ = [(21, .int .i64 k), (15, .slice a i c), (14, .int .i64 (0)), (10, .pointer (some ⟨A.w, 0, none⟩)), (6, .pointer (some ⟨bf, 0, none⟩)), (3, .int .i64 proto), (1, .slice a0 i c0), (0, .int .i64 f)] ∧ q = 10 - k ∧ k ≤ 10 ∧ A'.w = A.w ∧ St W No w' ([blk bf 24 [.int .i64 fa, .int .i64 fp], ownL 3 1 encI (.slice a i c) ports] ++ (worldH A' (U.dl k) ++ [])))
      (σ' := [(21, .int .i64 ((0 : Nat) : Int)), (15, .slice a i c), (14, .int .i64 (0)), (10, .pointer (some ⟨A.w, 0, none⟩)), (6, .pointer (some ⟨bf, 0, none⟩)), (3, .int .i64 proto), (1, .slice a0 i c0), (0, .int .i64 f)]) (n := 10) ⟨rfl, rfl, rfl, rfl, rfl, rfl, rfl, rfl, trivial⟩ ⟨0, A, rfl, rfl, Nat.zero_le _, rfl, hS⟩ ?_
    clear hS
    rintro _ w9 q ⟨k, A', rfl, rfl, hk, hA, hS⟩
    rw [← hA]
    have hOk := dlT_ok hO k
    (conv => whnf)
    refine brD (fun h8 => ?_) (fun h8 => ?_)
    · (conv => whnf)
      refine (wdeliver_ok 0 (St.stands hS hE hOk)).mono ?_
      rintro v w' ⟨rfl, A2, hA2, ht⟩
      replace hS := St.callAt hS ht
      (conv => whnf)
      refine RngC.mk (by omega) (by omega) ?_
      (conv => whnf)
      refine LoopE.mk ⟨_, [(21, .int .i64 ((k + 1 : Nat) : Int)), (15, _), (14, _), (10, _), (6, _), (3, _), (1, _), (0, _)], ?_, ⟨rfl, rfl, rfl, rfl, rfl, rfl, rfl, rfl, trivial⟩, ⟨k + 1, A2, rfl, rfl, by omega, hA2, hS⟩⟩
      omega
    obtain rfl : k = 10 := by omega
    clear hO
    generalize U.dl 10 = U at hS hOk t2 t3 hSD
    generalize A' = A at hS ⊢
    clear h8 hk hA
    (conv => whnf)
    refine (wdown_ok f (St.stands hS hE hOk)).mono ?_
    rintro v w' ⟨rfl, ht⟩
    replace hS := St.callAt hS ht
    replace hOk := hOk.down f
    rw [t2]
    generalize (U.down f).2 = U at hS hOk t3 hSD
    clear ht t2
    (conv => whnf)
    refine RngC.mk (by omega) (by omega) ?_
    (conv => whnf)
    have hO3 := tk_ok (f := 1 - f) hOk
    refine loopR tabOk (fun σ w' q => ∃ (k : Nat) (A' : WorldA), σ = [(23, .int .i64 k), (22, .int .i64 (1 - f)), (15, .slice a i c), (14, .int .i64 (0)), (10, .pointer (some ⟨A.w, 0, none⟩)), (6, .pointer (some ⟨bf, 0, none⟩)), (3, .int .i64 proto), (1, .slice a0 i c0)] ∧ q = 10 - k ∧ k ≤ 10 ∧ A'.w = A.w ∧ St W No w' ([blk bf 24 [.int .i64 fa, .int .i64 fp], ownL 3 1 encI (.slice a i c) ports] ++ (worldH A' (U.tk (1 - f) k) ++ [])))
      (σ' := [(23, .int .i64 ((0 : Nat) : Int)), (22, .int .i64 (1 - f)), (15, .slice a i c), (14, .int .i64 (0)), (10, .pointer (some ⟨A.w, 0, none⟩)), (6, .pointer (some ⟨bf, 0, none⟩)), (3, .int .i64 proto), (1, .slice a0 i c0)]) (n := 10) ⟨rfl, rfl, rfl, rfl, rfl, rfl, rfl, rfl, trivial⟩ ⟨0, A, rfl, rfl, Nat.zero_le _, rfl, hS⟩ ?_
    clear hS
    rintro _ w10 q ⟨k, A', rfl, rfl, hk, hA, hS⟩
    rw [← hA]
    (conv => whnf)
    refine brD (fun h8 => ?_) (fun h8 => ?_)
    · have hOk := hO3 k (by omega)
      have he := t3 k (by omega)
      (conv => whnf)
      refine (wtick_ok (1 - f) (St.stands hS hE hOk) (by omega)).mono ?_
      rintro v w' ⟨rfl, A2, hA2, ht⟩
      replace hS := St.callAt hS ht
      rw [he]
      (conv => whnf)
      refine RngC.mk (by omega) (by omega) ?_
      (conv => whnf)
      refine LoopE.mk ⟨_, [(23, .int .i64 ((k + 1 : Nat) : Int)), (22, _), (15, _), (14, _), (10, _), (6, _), (3, _), (1, _)], ?_, ⟨rfl, rfl, rfl, rfl, rfl, rfl, rfl, rfl, trivial⟩, ⟨k + 1, A2, rfl, rfl, by omega, hA2, hS⟩⟩
      omega
    obtain rfl : k = 10 := by omega
    have hO := hO3 10 (by omega)
    generalize U.tk (1 - f) 10 = U at hS hO hSD
    generalize A' = A at hS ⊢
    clear h8 hk t3 hO3 hA hOk
    (conv => whnf)
    refine loopR tabOk (fun σ w' q => ∃ (k : Nat) (A' : WorldA), σ = [(24, .int .i64 k), (22, .int .i64 (1 - f)), (15, .slice a i c), (14, .int .i64 (0)), (10, .pointer (some ⟨A.w, 0, none⟩)), (6, .pointer (some ⟨bf, 0, none⟩)), (3, .int .i64 proto), (1, .slice a0 i c0)] ∧ q = 10 - k ∧ k ≤ 10 ∧ A'.w = A.w ∧ St W No w' ([blk bf 24 [.int .i64 fa, .int .i64 fp], ownL 3 1 encI (.slice a i c) ports] ++ (worldH A' (U.dl k) ++ [])))
      (σ' := [(24, .int .i64 ((0 : Nat) : Int)), (22, .int .i64 (1 - f)), (15, .slice a i c), (14, .int .i64 (0)), (10, .pointer (some ⟨A.w, 0, none⟩)), (6, .pointer (some ⟨bf, 0, none⟩)), (3, .int .i64 proto), (1, .slice a0 i c0)]) (n := 10) ⟨rfl, rfl, rfl, rfl, rfl, rfl, rfl, rfl, trivial⟩ ⟨0, A, rfl, rfl, Nat.zero_le _, rfl, hS⟩ ?_
    clear hS
    rintro _ w11 q ⟨k, A', rfl, rfl, hk, hA, hS⟩
    rw [← hA]
    have hOk := dlT_ok hO k
    (conv => whnf)
    refine brD (fun h8 => ?_) (fun h8 => ?_)
    · (conv => whnf)
      refine (wdeliver_ok 0 (St.stands hS hE hOk)).mono ?_
      rintro v w' ⟨rfl, A2, hA2, ht⟩
      replace hS := St.callAt hS ht
      (conv => whnf)
      refine RngC.mk (by omega) (by omega) ?_
      (conv => whnf)
      refine LoopE.mk ⟨_, [(24, .int .i64 ((k + 1 : Nat) : Int)), (22, _), (15, _), (14, _), (10, _), (6, _), (3, _), (1, _)], ?_, ⟨rfl, rfl, rfl, rfl, rfl, rfl, rfl, rfl, trivial⟩, ⟨k + 1, A2, rfl, rfl, by omega, hA2, hS⟩⟩
      omega
    obtain rfl : k = 10 := by omega
    clear hO
    generalize U.dl 10 = U at hS hOk hSD
    generalize A' = A at hS ⊢
    clear h8 hk hA
    (conv => whnf)
    refine (wswitch_ok hS.has.right.left).mono ?_
    rintro v w' ⟨rfl, hx'⟩
    replace hS := hS.no hx'
    clear hx'
    rw [hSD.to]
    (conv => whnf)
    refine brND (fun h => absurd rfl h) (fun _ => ?_)
    (conv => whnf)
    refine loopR tabOk (fun σ w' q => ∃ (g : Nat) (V' : WorldS), σ = [(27, .int .i64 g), (15, .slice a i c), (14, .int .i64 (0)), (10, .pointer (some ⟨A.w, 0, none⟩)), (6, .pointer (some ⟨bf, 0, none⟩)), (3, .int .i64 proto), (1, .slice a0 i c0)] ∧ q = i - g ∧ g ≤ i ∧ WOk (5000 + g) V' ∧ SD f (1) fa fp D V' ∧ St W No w' ([blk bf 24 [.int .i64 fa, .int .i64 fp], ownL 3 1 encI (.slice a i c) ports] ++ (worldH A V' ++ [])))
      (σ' := [(27, .int .i64 ((0 : Nat) : Int)), (15, .slice a i c), (14, .int .i64 (0)), (10, .pointer (some ⟨A.w, 0, none⟩)), (6, .pointer (some ⟨bf, 0, none⟩)), (3, .int .i64 proto), (1, .slice a0 i c0)]) (n := i) ⟨rfl, rfl, rfl, rfl, rfl, rfl, rfl, trivial⟩ ⟨0, U, rfl, rfl, Nat.zero_le _, hOk.mono (by omega), hSD, hS⟩ ?_
    clear hS hSD hOk
    rintro _ w12 q ⟨g, V', rfl, rfl, hg, hO, hSD, hS⟩
    (conv => whnf)
    refine brD (fun h9 => ?_) (fun h9 => ?_)
    · obtain ⟨b0, o0, e, hek, _, rfl, hb0, hc⟩ := hx.at (k := g) (by omega)
      obtain ⟨j, hpj, hDj⟩ := hPO g e (by omega) hek
      obtain ⟨b3, o3, x, hxp, _, rfl, hb3, hcp⟩ := (ownL_slc (G := fun _ => True) codInt (hS.get 1 rfl) (fun _ _ => trivial)).at (k := g) (by omega)
      rw [hpj] at hxp
      obtain rfl := Option.some.inj hxp
      obtain ⟨i1, i2, i3, i4⟩ := hSD.outside hf hp12 hfar hDj
      rw [show bkT (1) = (0) from rfl] at i1 i2 i3 i4
      subst heq
      have hbfl := (hS.blk 0 rfl).lt
      have hT8 : ¬ (inF (worldH A V') bf ∨ w12.heap.size ≤ bf) := by
        rintro (h | h)
        · exact hS.frontOut (List.mem_singleton.2 rfl) (inF_app.2 (.inr (inF_app.2 (.inl h))))
        · omega
      have hT9 : ¬ (inF (worldH A V') b3 ∨ w12.heap.size ≤ b3) := by
        rintro (h | h)
        · have hS' := (show St W No w12 (_ :: _ :: (worldH A V' ++ [])) from hS).perm (List.Perm.swap _ _ _)
          exact hS'.frontOut (b := b3) (by simp [ownL, own, Value.ownBlock]) (inF_app (A := [_]).2 (.inr (inF_app.2 (.inl h))))
        · omega
      (conv => whnf)
      refine DrawC.cut (fun σ w' => ∃ (bx : Nat) (V2 : WorldS) (pk : PktS), σ = [(29, .nilIface), (28, .pointer (some ⟨bx, 0, none⟩)), (27, .int .i64 g), (15, .slice (some ⟨b3, o3, none⟩) i c), (14, .int .i64 (0)), (10, .pointer (some ⟨A.w, 0, none⟩)), (6, .pointer (some ⟨bf, 0, none⟩)), (3, .int .i64 (1)), (1, .slice (some ⟨b0, o0, none⟩) i c0)] ∧ pk.da = e.1 ∧ pk.dp = e.2 ∧ WOk (5000 + (g + 1)) V2 ∧ SD f (1) fa fp D V2 ∧ St W No w' ([blk bx 37 (encPkt pk), blk bf 24 [.int .i64 fa, .int .i64 fp], ownL 3 1 encI (.slice (some ⟨b3, o3, none⟩) i c) ports] ++ (worldH A V2 ++ []))) ?_ ?_
      · refine drawT tabOk mixed [] (fun d => inF (worldH A V') d ∨ w12.heap.size ≤ d) (.take 0 (.take 1 (.take 2 (.take 3 (.take 4 (.take 5 (.take 6 (.take 7 (.take 8 (.take 9 (.alt 10 (.take 11 (.take 12 (.take 13 (.alt 14 (.alt 15 (.take 16 .fin) .fin) .fin)))) (.alt 14 (.alt 10 (.take 11 (.take 12 (.take 13 (.alt 15 (.take 16 .fin) .fin)))) .fin) .fin)))))))))))) (by kernel_rfl) ?_
        rintro w1 rfl
        replace hS := hS.drew
        have hK := hS.ref (fun d => inF (worldH A V') d ∨ w12.heap.size ≤ d)
        have hcp := (ownL_slc (G := fun _ => True) codInt (hS.get 1 rfl) (fun _ _ => trivial)).at (k := g) (by omega)
        obtain ⟨b4, o4, x4, hx4, _, hb4, _, hcp⟩ := hcp
        cases hb4
        obtain rfl := Option.some.inj (hpj.symm.trans hx4)
        repeat' ((conv => whnf); first | refine And.intro ?_ ?_ | refine hS.laXF 0 rfl rfl hT8 ?_ | refine IdxC.mk (by omega) (by omega) ?_ | refine ldFc (hcp.one 0 (v := .int .i64 (2000 + f * 24 + j)) rfl) hT9 ?_)
        · (conv => whnf)
          refine (woutside_ok ⟨(1), fa, fp, 1, 2000 + f * 24 + j, (0)⟩ (St.stands hS hE hO) (by omega)).mono ?_
          rintro v w' ⟨rfl, ht⟩
          replace hS := St.callAt hS ht
          replace hO := hO.outside ⟨(1), fa, fp, 1, 2000 + f * 24 + j, (0)⟩
          replace hK := hK.trans (ht.ext.mono fun d h => .inl h)
          refine KeepC.mk hK ?_
          clear ht
          rw [i1]
          generalize (V'.outside ⟨(1), fa, fp, 1, 2000 + f * 24 + j, (0)⟩).2.2 = V2 at hS hO i4
          generalize hpk : (V'.outside ⟨(1), fa, fp, 1, 2000 + f * 24 + j, (0)⟩).2.1 = pk at i2 i3
          (conv => whnf)
          refine hS.newT hK (fun bx w' hbx hK2 hS => KeepC.mk hK2 ?_)
          replace hS := hS.perm List.perm_append_comm
          (conv => whnf)
          refine hS.stK hK2 0 rfl (Nat.le_of_ble_eq_true rfl) rfl (.inr (Nat.le_trans hK.size hbx)) (fun w' hK3 hS => KeepC.mk hK3 ?_)
          exact CutE.mk ⟨[(29, _), (28, _), (27, _), (15, _), (14, _), (10, _), (6, _), (3, _), (1, _)], ⟨rfl, rfl, rfl, rfl, rfl, rfl, rfl, rfl, rfl, trivial⟩, bx, V2, pk, rfl, i2, i3, hO.mono (by omega), i4, hS⟩
        · (conv => whnf)
          refine hS.newT hK (fun bx w' hbx hK2 hS => KeepC.mk hK2 ?_)
          replace hS := hS.perm List.perm_append_comm
          replace hS : St W No w' ([blk bx 37 (encPkt noPkt), blk bf 24 [.int .i64 fa, .int .i64 fp], ownL 3 1 encI (.slice (some ⟨b3, o3, none⟩) i c) ports] ++ (worldH A V' ++ [])) := hS
          (conv => whnf)
          refine (woutside_ok ⟨(1), fa, fp, 1, 2000 + f * 24 + j, (0)⟩ (St.stands hS hE hO) (by omega)).mono ?_
          rintro v w' ⟨rfl, ht⟩
          replace hS := St.callAt hS ht
          replace hO := hO.outside ⟨(1), fa, fp, 1, 2000 + f * 24 + j, (0)⟩
          replace hK2 := hK2.trans (ht.ext.mono fun d h => .inl h)
          refine KeepC.mk hK2 ?_
          clear ht
          rw [i1]
          generalize (V'.outside ⟨(1), fa, fp, 1, 2000 + f * 24 + j, (0)⟩).2.2 = V2 at hS hO i4
          generalize hpk : (V'.outside ⟨(1), fa, fp, 1, 2000 + f * 24 + j, (0)⟩).2.1 = pk at i2 i3
          (conv => whnf)
          refine hS.stK hK2 0 rfl (Nat.le_of_ble_eq_true rfl) rfl (.inr hbx) (fun w' hK3 hS => KeepC.mk hK3 ?_)
          exact CutE.mk ⟨[(29, _), (28, _), (27, _), (15, _), (14, _), (10, _), (6, _), (3, _), (1, _)], ⟨rfl, rfl, rfl, rfl, rfl, rfl, rfl, rfl, rfl, trivial⟩, bx, V2, pk, rfl, i2, i3, hO.mono (by omega), i4, hS⟩
      clear hS hSD hO i1 i2 i3 i4 hT8 hT9 hbfl hcp
      rintro _ w13 ⟨bx, V2, pk, rfl, hda, hdp, hO, hSD, hS⟩
      (conv => whnf)
      (refine drawS tabOk mixed [] No [0, 1, 2, 3, 4, 5, 6, 7, 8, 9, 10] (by kernel_rfl) ?_; rintro w1 rfl; replace hS := hS.drew)
      repeat' ((conv => whnf); first | refine hS.laXF 0 rfl rfl (fun h => h) ?_ | refine IdxC.mk (by omega) (by omega) ?_ | refine hS.larF (l := encEnd e) rfl hc (fun h => h) (fun h => h) ?_ | (refine neEnd ?_; rw [decide_eq_true ⟨hda, hdp⟩]))
      replace hS : St W No _ ([blk bf 24 [.int .i64 fa, .int .i64 fp], ownL 3 1 encI (.slice (some ⟨b3, o3, none⟩) i c) ports] ++ (worldH A V2 ++ [])) := hS.weaken (List.sublist_append_right [_] _)
      (conv => whnf)
      refine RngC.mk (by omega) (by omega) ?_
      (conv => whnf)
      refine LoopE.mk ⟨_, [(27, .int .i64 ((g + 1 : Nat) : Int)), (15, _), (14, _), (10, _), (6, _), (3, _), (1, _)], ?_, ⟨rfl, rfl, rfl, rfl, rfl, rfl, rfl, trivial⟩, ⟨g + 1, V2, rfl, rfl, by omega, hO, hSD, hS⟩⟩
      omega
    · repeat' ((conv => whnf); first | refine RetC.mk ?_ | refine NzC.mk (by decide) ?_ | refine RngC.mk (by omega) (by omega) ?_ | refine IdxC.mk (by omega) (by omega) ?_ | refine brD (fun _ => ?_) (fun _ => ?_) | refine brND (fun _ => ?_) (fun _ => ?_) | refine brN (fun _ => ?_) (fun _ => ?_) | refine brI (fun _ => ?_) (fun _ => ?_))
      exact ⟨rfl, hS.ext⟩
theorem arg_end {W : World} {v : Value} (h : ArgOk Tryd.prog W 24 v) : ∃ a p : Int, v = .agg #[.int .i64 a, .int .i64 p] := by
  obtain ⟨ps, rfl, hk, hok⟩ := arg_flat Tryd.underlying24 (by kernel_rfl : flatK Tryd.prog 10 24 = some [.int, .int]) (by kernel_rfl) h
  obtain ⟨p1, r, rfl, g1, hk⟩ := kinds_cons hk
  obtain ⟨p2, r, rfl, g2, hk⟩ := kinds_cons hk
  obtain rfl := kinds_nil hk
  obtain ⟨n1, rfl⟩ := k_int g1
  obtain ⟨n2, rfl⟩ := k_int g2
  exact ⟨n1, n2, rfl⟩
theorem worldTakes_walk {E : Nat → Addr} (W : World) (args : List Value) (hE : Errs W E W.heap.size insErrs) (ha : ArgsOk Tryd.prog W [3, 22, 24, 3] args) :
    CallC Tryd.prog 3 args.toArray W fun v w' => v = .bool true ∧ Ext No W w' := by
  obtain ⟨v0, args, rfl, h0, ha⟩ := ha.cons
  obtain ⟨v1, args, rfl, h1, ha⟩ := ha.cons
  obtain ⟨v2, args, rfl, h2, ha⟩ := ha.cons
  obtain ⟨v3, args, rfl, h3, ha⟩ := ha.cons
  obtain rfl := ha.nil
  obtain ⟨f, rfl, _⟩ := arg_int Tryd.underlying3 h0
  obtain ⟨a1, n1, c1, l, rfl, hx, _⟩ := arg_slice (d := 12) (sz := 2) Tryd.underlying22 (by kernel_rfl) (by decide) (dec_endB (by decide)) h1
  obtain ⟨fa, fp, rfl⟩ := arg_end h2
  obtain ⟨proto, rfl, _⟩ := arg_int Tryd.underlying3 h3
  exact worldTakes_ok W hE f fa fp proto a1 n1 c1 l hx
end Go.Proofs.YtoaghhcjlfiflaaDoor
