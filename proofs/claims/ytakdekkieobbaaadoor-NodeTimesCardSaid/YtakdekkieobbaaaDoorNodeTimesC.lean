/-
  Texts of this claim, joined: NodeI, NodeT, NodeN, LivesS, TimesS, Wakes, NodeTimes.
-/
import Derived.Test.YtakdekkieobbaaaDoorNodeTimesB
import Derived.Test.YtakdekkieobbaaaDoorEvL
import Derived.Test.YtakdekkieobbaaaDoorAs

/-
  Package node, walked: packets from inside and from outside.
-/
namespace Go.Proofs.YtakdekkieobbaaaDoor
open Go Ev
section
variable {w : World} {A : NodeA} {N : NodeS}
theorem nodeH_n : inF (nodeH A N) A.n := ⟨_, List.mem_of_getElem? (i := 0) rfl, List.mem_singleton.2 rfl⟩
theorem nodeH_r : inF (nodeH A N) A.r := ⟨_, List.mem_of_getElem? (i := 1) rfl, List.mem_singleton.2 rfl⟩
theorem nodeH_c : inF (nodeH A N) A.c := ⟨_, List.mem_of_getElem? (i := 2) rfl, List.mem_singleton.2 rfl⟩
theorem nodeH_t : inF (nodeH A N) A.t := ⟨_, List.mem_of_getElem? (i := 3) rfl, List.mem_singleton.2 rfl⟩
theorem nodeH_x : inF (nodeH A N) A.x := ⟨_, List.mem_of_getElem? (i := 4) rfl, List.mem_singleton.2 rfl⟩
theorem nodeH_m : inF (nodeH A N) A.m := ⟨_, List.mem_of_getElem? (i := 5) rfl, List.mem_singleton.2 rfl⟩
theorem High.size {q : Nat} (hq : High (nodeH A N) q) (hN : Has w (nodeH A N)) : q ≤ w.heap.size := by
  have h1 := hq A.n nodeH_n
  have h2 := hN.lt _ (List.mem_of_getElem? (i := 0) rfl) A.n (List.mem_singleton.2 rfl)
  omega
theorem ninside_ok {E : Nat → Addr} {q m : Nat} (p : PktS) (hN : Has w (nodeH A N)) (hO : NOk m N) (hm : m + 1 ≤ 50000000) (hE : Errs w E q insErrs) (hq : High (nodeH A N) q) :
    CallC Tryd.prog 33 #[.pointer (some ⟨A.n, 0, none⟩), .agg (encPkt p).toArray] w fun v w' => v = .tuple #[.agg (encPkt (N.inside p).2.1).toArray, errV E (N.inside p).1] ∧ Turns w w' (nodeH A N) (nodeH A (N.inside p).2.2) := by
  have hqF : ∀ b, inF (nodeH A N) b → q ≤ b := hq
  have hqw := hq.size hN
  refine fn_intro tabOk Tryd.func33 (by kernel_rfl) rfl Tryd.ntmps33 (Nat.le_of_ble_eq_true rfl) ?_
  have hS := hN.start
  (conv => whnf)
  refine hS.new (fun bp w' hbp hS => ?_)
  (conv => whnf)
  refine hS.new (fun br w' hbr hS => ?_)
  replace hS : St w (inF (nodeH A N)) w' (nodeH A N ++ [blk bp 28 (encPkt p), blk br 28 (encPkt noPkt)]) := hS
  (conv => whnf)
  refine hS.laX 7 rfl rfl ?_
  (conv => whnf)
  refine (pcheck_ok p _ ((hE.ext hS.ext hqF).sub rfl)).mono ?_
  rintro v w2 ⟨rfl, hx⟩
  replace hS := hS.no hx
  by_cases hp : p.err = 0
  case neg =>
    obtain ⟨j, hj⟩ : ∃ j, p.err = j + 1 := ⟨p.err - 1, by omega⟩
    rw [show N.inside p = (p.err, noPkt, N) from if_pos hp, hj]
    repeat' ((conv => whnf); first | refine RetC.mk ?_ | refine NzC.mk (by decide) ?_ | refine RngC.mk (by omega) (by omega) ?_ | refine IdxC.mk (by omega) (by omega) ?_ | refine hS.st 8 rfl (Nat.le_of_ble_eq_true rfl) rfl (fun w' hS => ?_) | refine hS.laX 8 rfl rfl ?_ | refine brD (fun _ => ?_) (fun _ => ?_) | refine brND (fun _ => ?_) (fun _ => ?_) | refine brN (fun _ => ?_) (fun _ => ?_) | refine brI (fun _ => ?_) (fun _ => ?_))
    exact ⟨rfl, (hS.keep 7).turns⟩
  rw [hp]
  (conv => whnf)
  refine hS.ld 0 rfl rfl ?_
  (conv => whnf)
  refine (role_active (hS.blk 1 rfl)).mono ?_
  rintro v w3 ⟨rfl, rfl⟩
  cases ha : N.role.active
  · rw [show N.inside p = (9, noPkt, N) by unfold NodeS.inside; rw [if_neg (fun h => h hp), if_pos ha]]
    (conv => whnf)
    (refine drawS tabOk mixed [] (fun b => b = br) [0, 1, 2, 3] (by kernel_rfl) ?_; rintro w1 rfl; replace hS := hS.drew)
    have hK := hS.ref (fun b => b = br)
    (conv => whnf)
    refine hS.ldrF (hE.at_ 9 rfl) (Errs.out hE 9 rfl hqF) (hE.ne 9 rfl (Nat.le_trans hqw hbr)) ?_
    (conv => whnf)
    refine hS.stK hK 8 rfl (Nat.le_of_ble_eq_true rfl) rfl rfl (fun w' hK hS => KeepC.mk hK ?_)
    repeat' ((conv => whnf); first | refine RetC.mk ?_ | refine NzC.mk (by decide) ?_ | refine RngC.mk (by omega) (by omega) ?_ | refine IdxC.mk (by omega) (by omega) ?_ | refine hS.laX 8 rfl rfl ?_ | refine brD (fun _ => ?_) (fun _ => ?_) | refine brND (fun _ => ?_) (fun _ => ?_) | refine brN (fun _ => ?_) (fun _ => ?_) | refine brI (fun _ => ?_) (fun _ => ?_))
    exact ⟨rfl, (hS.keep 7).turns⟩
  (conv => whnf)
  refine hS.new (fun bf w' hbf hS => ?_)
  replace hS : St w (inF (nodeH A N)) w' (nodeH A N ++ [blk bp 28 (encPkt p), blk br 28 (encPkt noPkt), blk bf 74 (encFlow noFlow)]) := hS
  (conv => whnf)
  (refine drawS tabOk mixed [] No [0, 1, 2, 3, 4, 5, 6, 7, 8, 9, 10, 11, 12, 13, 14, 15] (by kernel_rfl) ?_; rintro w1 rfl; replace hS := hS.drew)
  repeat' ((conv => whnf); first | refine hS.laXF 7 rfl rfl id ?_ | refine hS.ldF 7 rfl rfl id ?_ | refine hS.ldF 0 rfl rfl id ?_)
  refine (tfind_ok _ _ _ _ _ (hS.blk 3 rfl) hO.tab.len).mono ?_
  rintro v w4 ⟨rfl, hx⟩
  replace hS := hS.no hx
  refine KeepC.mk hx ?_
  (conv => whnf)
  refine brD (fun hf => ?_) (fun hf => ?_)
  · rw [show atI (N.tab.find p.proto p.sa p.sp p.da p.dp) = N.tab.find p.proto p.sa p.sp p.da p.dp from if_neg (by omega)]
    rw [show N.inside p = (0, ⟨p.proto, 1, (flowAt N.tab (N.tab.find p.proto p.sa p.sp p.da p.dp)).port, p.da, p.dp, p.flags⟩, N.pass (N.tab.find p.proto p.sa p.sp p.da p.dp) p.flags true) by
      unfold NodeS.inside
      rw [if_neg (fun h => h hp), if_neg (by rw [ha]; decide), if_pos hf]]
    have herr := (flowErr_find hO.tab.len (fitF p.proto p.sa p.sp p.da p.dp) hf).1
    (conv => whnf)
    refine hS.laX 7 rfl rfl ?_
    (conv => whnf)
    refine (npass_ok _ p true hS.has.left hO (by omega) herr (hE.ext hS.ext hqF) hq).mono ?_
    rintro v w5 ⟨rfl, ht⟩
    replace hS := St.call hS ht
    (conv => whnf)
    refine hS.new (fun bx w' hbx hS => ?_)
    replace hS : St w (inF (nodeH A N)) w' (nodeH A (N.pass (N.tab.find p.proto p.sa p.sp p.da p.dp) p.flags true) ++ [blk bp 28 (encPkt p), blk br 28 (encPkt noPkt), blk bf 74 (encFlow noFlow), blk bx 74 (encFlow noFlow)]) := hS
    (conv => whnf)
    refine hS.st 10 rfl (Nat.le_of_ble_eq_true rfl) rfl (fun w' hS => ?_)
    (conv => whnf)
    refine hS.laX 10 rfl rfl ?_
    (conv => whnf)
    refine hS.st 9 rfl (Nat.le_of_ble_eq_true rfl) rfl (fun w' hS => ?_)
    (conv => whnf)
    refine hS.ld 9 rfl rfl ?_
    (conv => whnf)
    refine hS.st 7 rfl (Nat.le_of_ble_eq_true rfl) rfl (fun w' hS => ?_)
    (conv => whnf)
    refine hS.laX 7 rfl rfl ?_
    (conv => whnf)
    refine hS.st 8 rfl (Nat.le_of_ble_eq_true rfl) rfl (fun w' hS => ?_)
    (conv => whnf)
    refine hS.laX 8 rfl rfl ?_
    repeat' ((conv => whnf); first | refine RetC.mk ?_ | refine NzC.mk (by decide) ?_ | refine RngC.mk (by omega) (by omega) ?_ | refine IdxC.mk (by omega) (by omega) ?_ | refine brD (fun _ => ?_) (fun _ => ?_) | refine brND (fun _ => ?_) (fun _ => ?_) | refine brN (fun _ => ?_) (fun _ => ?_) | refine brI (fun _ => ?_) (fun _ => ?_))
    exact ⟨rfl, (hS.keep 7).turns⟩
  · have hI : N.inside p = if (N.begin p).1.2 ≠ 0 then ((N.begin p).1.2, noPkt, (N.begin p).2) else (0, ⟨p.proto, 1, (flowAt (N.begin p).2.tab (N.begin p).1.1).port, p.da, p.dp, p.flags⟩, (N.begin p).2) := by
      unfold NodeS.inside
      rw [if_neg (fun h => h hp), if_neg (by rw [ha]; decide), if_neg hf]
    rw [hI]
    (conv => whnf)
    refine hS.laX 7 rfl rfl ?_
    (conv => whnf)
    refine (nbegin_ok p hS.has.left hO (by omega) hp (hE.ext hS.ext hqF) hq).mono ?_
    rintro v w5 ⟨rfl, ht⟩
    replace hS := St.call hS ht
    have hO2 := hO.begin p
    have hin := begin_in hO p
    generalize N.begin p = r at hS hO2 hin ⊢
    obtain ⟨⟨k, kk⟩, N2⟩ := r
    cases kk with
    | succ j =>
      rw [if_pos (show ((k, j + 1), N2).1.2 ≠ 0 by simp)]
      repeat' ((conv => whnf); first | refine RetC.mk ?_ | refine NzC.mk (by decide) ?_ | refine RngC.mk (by omega) (by omega) ?_ | refine IdxC.mk (by omega) (by omega) ?_ | refine hS.st 8 rfl (Nat.le_of_ble_eq_true rfl) rfl (fun w' hS => ?_) | refine hS.laX 8 rfl rfl ?_ | refine brD (fun _ => ?_) (fun _ => ?_) | refine brND (fun _ => ?_) (fun _ => ?_) | refine brN (fun _ => ?_) (fun _ => ?_) | refine brI (fun _ => ?_) (fun _ => ?_))
      exact ⟨rfl, (hS.keep 7).turns⟩
    | zero =>
      rw [if_neg (show ¬ ((k, 0), N2).1.2 ≠ 0 by simp)]
      obtain ⟨h0, h1⟩ := hin rfl
      obtain ⟨c, hc, hcf⟩ := flowAt_in hO2 k h0 h1
      dsimp only at hS hc hcf h0 h1 ⊢
      rw [← hcf]
      (conv => whnf)
      refine hS.ld 0 rfl rfl ?_
      (conv => whnf)
      refine (tget_ok k (hS.blk 3 rfl) h0 h1 hc).mono ?_
      rintro v w6 ⟨rfl, hx⟩
      replace hS := hS.no hx
      (conv => whnf)
      refine hS.new (fun bx w' hbx hS => ?_)
      replace hS : St w (inF (nodeH A N)) w' (nodeH A N2 ++ [blk bp 28 (encPkt p), blk br 28 (encPkt noPkt), blk bf 74 (encFlow noFlow), blk bx 76 (encCell ⟨0, 0, noFlow⟩)]) := hS
      (conv => whnf)
      refine hS.st 10 rfl (Nat.le_of_ble_eq_true rfl) rfl (fun w' hS => ?_)
      (conv => whnf)
      refine hS.laX 10 rfl rfl ?_
      (conv => whnf)
      refine hS.st 9 rfl (Nat.le_of_ble_eq_true rfl) rfl (fun w' hS => ?_)
      (conv => whnf)
      refine hS.ld 9 rfl rfl ?_
      (conv => whnf)
      refine hS.st 7 rfl (Nat.le_of_ble_eq_true rfl) rfl (fun w' hS => ?_)
      (conv => whnf)
      refine hS.laX 7 rfl rfl ?_
      (conv => whnf)
      refine hS.st 8 rfl (Nat.le_of_ble_eq_true rfl) rfl (fun w' hS => ?_)
      (conv => whnf)
      refine hS.laX 8 rfl rfl ?_
      repeat' ((conv => whnf); first | refine RetC.mk ?_ | refine NzC.mk (by decide) ?_ | refine RngC.mk (by omega) (by omega) ?_ | refine IdxC.mk (by omega) (by omega) ?_ | refine brD (fun _ => ?_) (fun _ => ?_) | refine brND (fun _ => ?_) (fun _ => ?_) | refine brN (fun _ => ?_) (fun _ => ?_) | refine brI (fun _ => ?_) (fun _ => ?_))
      exact ⟨rfl, (hS.keep 7).turns⟩
theorem noutside_ok {E : Nat → Addr} {q m : Nat} (p : PktS) (hN : Has w (nodeH A N)) (hO : NOk m N) (hm : m + 1 ≤ 50000000) (hE : Errs w E q insErrs) (hq : High (nodeH A N) q) :
    CallC Tryd.prog 34 #[.pointer (some ⟨A.n, 0, none⟩), .agg (encPkt p).toArray] w fun v w' => v = .tuple #[.agg (encPkt (N.outside p).2.1).toArray, errV E (N.outside p).1] ∧ Turns w w' (nodeH A N) (nodeH A (N.outside p).2.2) := by
  have hqF : ∀ b, inF (nodeH A N) b → q ≤ b := hq
  have hqw := hq.size hN
  refine fn_intro tabOk Tryd.func34 (by kernel_rfl) rfl Tryd.ntmps34 (Nat.le_of_ble_eq_true rfl) ?_
  have hS := hN.start
  (conv => whnf)
  refine hS.new (fun bp w' hbp hS => ?_)
  (conv => whnf)
  refine hS.new (fun br w' hbr hS => ?_)
  replace hS : St w (inF (nodeH A N)) w' (nodeH A N ++ [blk bp 28 (encPkt p), blk br 28 (encPkt noPkt)]) := hS
  (conv => whnf)
  refine hS.laX 7 rfl rfl ?_
  (conv => whnf)
  refine (pcheck_ok p _ ((hE.ext hS.ext hqF).sub rfl)).mono ?_
  rintro v w2 ⟨rfl, hx⟩
  replace hS := hS.no hx
  by_cases hp : p.err = 0
  case neg =>
    obtain ⟨j, hj⟩ : ∃ j, p.err = j + 1 := ⟨p.err - 1, by omega⟩
    rw [show N.outside p = (p.err, noPkt, N) from if_pos hp, hj]
    repeat' ((conv => whnf); first | refine RetC.mk ?_ | refine NzC.mk (by decide) ?_ | refine RngC.mk (by omega) (by omega) ?_ | refine IdxC.mk (by omega) (by omega) ?_ | refine hS.st 8 rfl (Nat.le_of_ble_eq_true rfl) rfl (fun w' hS => ?_) | refine hS.laX 8 rfl rfl ?_ | refine brD (fun _ => ?_) (fun _ => ?_) | refine brND (fun _ => ?_) (fun _ => ?_) | refine brN (fun _ => ?_) (fun _ => ?_) | refine brI (fun _ => ?_) (fun _ => ?_))
    exact ⟨rfl, (hS.keep 7).turns⟩
  rw [hp]
  (conv => whnf)
  refine hS.ld 0 rfl rfl ?_
  (conv => whnf)
  refine (role_active (hS.blk 1 rfl)).mono ?_
  rintro v w3 ⟨rfl, rfl⟩
  cases ha : N.role.active
  · rw [show N.outside p = (9, noPkt, N) by unfold NodeS.outside; rw [if_neg (fun h => h hp), if_pos ha]]
    (conv => whnf)
    (refine drawS tabOk mixed [] (fun b => b = br) [0, 1, 2, 3] (by kernel_rfl) ?_; rintro w1 rfl; replace hS := hS.drew)
    have hK := hS.ref (fun b => b = br)
    (conv => whnf)
    refine hS.ldrF (hE.at_ 9 rfl) (Errs.out hE 9 rfl hqF) (hE.ne 9 rfl (Nat.le_trans hqw hbr)) ?_
    (conv => whnf)
    refine hS.stK hK 8 rfl (Nat.le_of_ble_eq_true rfl) rfl rfl (fun w' hK hS => KeepC.mk hK ?_)
    repeat' ((conv => whnf); first | refine RetC.mk ?_ | refine NzC.mk (by decide) ?_ | refine RngC.mk (by omega) (by omega) ?_ | refine IdxC.mk (by omega) (by omega) ?_ | refine hS.laX 8 rfl rfl ?_ | refine brD (fun _ => ?_) (fun _ => ?_) | refine brND (fun _ => ?_) (fun _ => ?_) | refine brN (fun _ => ?_) (fun _ => ?_) | refine brI (fun _ => ?_) (fun _ => ?_))
    exact ⟨rfl, (hS.keep 7).turns⟩
  (conv => whnf)
  refine hS.ld 7 rfl rfl ?_
  (conv => whnf)
  refine brND (fun hd => ?_) (fun hd => ?_)
  · rw [show N.outside p = (3, noPkt, N) by unfold NodeS.outside; rw [if_neg (fun h => h hp), if_neg (by rw [ha]; decide), if_pos hd]]
    (conv => whnf)
    (refine drawS tabOk mixed [] (fun b => b = br) [0, 1, 2, 3] (by kernel_rfl) ?_; rintro w1 rfl; replace hS := hS.drew)
    have hK := hS.ref (fun b => b = br)
    (conv => whnf)
    refine hS.ldrF (hE.at_ 3 rfl) (Errs.out hE 3 rfl hqF) (hE.ne 3 rfl (Nat.le_trans hqw hbr)) ?_
    (conv => whnf)
    refine hS.stK hK 8 rfl (Nat.le_of_ble_eq_true rfl) rfl rfl (fun w' hK hS => KeepC.mk hK ?_)
    repeat' ((conv => whnf); first | refine RetC.mk ?_ | refine NzC.mk (by decide) ?_ | refine RngC.mk (by omega) (by omega) ?_ | refine IdxC.mk (by omega) (by omega) ?_ | refine hS.laX 8 rfl rfl ?_ | refine brD (fun _ => ?_) (fun _ => ?_) | refine brND (fun _ => ?_) (fun _ => ?_) | refine brN (fun _ => ?_) (fun _ => ?_) | refine brI (fun _ => ?_) (fun _ => ?_))
    exact ⟨rfl, (hS.keep 7).turns⟩
  (conv => whnf)
  (refine drawS tabOk mixed [] No [0, 1, 2, 3, 4, 5, 6, 7, 8, 9, 10, 11, 12, 13, 14, 15, 16] (by kernel_rfl) ?_; rintro w1 rfl; replace hS := hS.drew)
  repeat' ((conv => whnf); first | refine hS.laXF 7 rfl rfl id ?_ | refine hS.ldF 7 rfl rfl id ?_ | refine hS.ldF 0 rfl rfl id ?_)
  refine (tback_ok _ _ _ _ (hS.blk 3 rfl) hO.tab.len).mono ?_
  rintro v w4 ⟨rfl, hx⟩
  replace hS := hS.no hx
  refine KeepC.mk hx ?_
  (conv => whnf)
  refine brN (fun hf => ?_) (fun hf => ?_)
  · replace hf := of_decide_eq_false hf
    rw [show N.outside p = (4, noPkt, N) by unfold NodeS.outside; rw [if_neg (fun h => h hp), if_neg (by rw [ha]; decide), if_neg (fun h => h hd), if_pos (by omega)]]
    (conv => whnf)
    (refine drawS tabOk mixed [] (fun b => b = br) [0, 1, 2, 3] (by kernel_rfl) ?_; rintro w1 rfl; replace hS := hS.drew)
    have hK := hS.ref (fun b => b = br)
    (conv => whnf)
    refine hS.ldrF (hE.at_ 4 rfl) (Errs.out hE 4 rfl hqF) (hE.ne 4 rfl (Nat.le_trans hqw hbr)) ?_
    (conv => whnf)
    refine hS.stK hK 8 rfl (Nat.le_of_ble_eq_true rfl) rfl rfl (fun w' hK hS => KeepC.mk hK ?_)
    repeat' ((conv => whnf); first | refine RetC.mk ?_ | refine NzC.mk (by decide) ?_ | refine RngC.mk (by omega) (by omega) ?_ | refine IdxC.mk (by omega) (by omega) ?_ | refine hS.laX 8 rfl rfl ?_ | refine brD (fun _ => ?_) (fun _ => ?_) | refine brND (fun _ => ?_) (fun _ => ?_) | refine brN (fun _ => ?_) (fun _ => ?_) | refine brI (fun _ => ?_) (fun _ => ?_))
    exact ⟨rfl, (hS.keep 7).turns⟩
  · replace hf := of_decide_eq_true hf
    rw [show atI (N.tab.back p.proto p.dp p.sa p.sp) = N.tab.back p.proto p.dp p.sa p.sp from if_neg (by omega)]
    rw [show N.outside p = (0, ⟨p.proto, p.sa, p.sp, (flowAt N.tab (N.tab.back p.proto p.dp p.sa p.sp)).ia, (flowAt N.tab (N.tab.back p.proto p.dp p.sa p.sp)).ip, p.flags⟩, N.pass (N.tab.back p.proto p.dp p.sa p.sp) p.flags false) by
      unfold NodeS.outside
      rw [if_neg (fun h => h hp), if_neg (by rw [ha]; decide), if_neg (fun h => h hd), if_neg (by omega)]]
    have herr := (flowErr_find hO.tab.len (fitB p.proto p.dp p.sa p.sp) hf).1
    (conv => whnf)
    refine hS.laX 7 rfl rfl ?_
    (conv => whnf)
    refine (npass_ok _ p false hS.has.left hO (by omega) herr (hE.ext hS.ext hqF) hq).mono ?_
    rintro v w5 ⟨rfl, ht⟩
    replace hS := St.call hS ht
    (conv => whnf)
    refine hS.new (fun bx w' hbx hS => ?_)
    replace hS : St w (inF (nodeH A N)) w' (nodeH A (N.pass (N.tab.back p.proto p.dp p.sa p.sp) p.flags false) ++ [blk bp 28 (encPkt p), blk br 28 (encPkt noPkt), blk bx 74 (encFlow noFlow)]) := hS
    (conv => whnf)
    refine hS.st 9 rfl (Nat.le_of_ble_eq_true rfl) rfl (fun w' hS => ?_)
    (conv => whnf)
    refine hS.laX 9 rfl rfl ?_
    (conv => whnf)
    refine hS.st 7 rfl (Nat.le_of_ble_eq_true rfl) rfl (fun w' hS => ?_)
    (conv => whnf)
    refine hS.laX 7 rfl rfl ?_
    (conv => whnf)
    refine hS.st 8 rfl (Nat.le_of_ble_eq_true rfl) rfl (fun w' hS => ?_)
    (conv => whnf)
    refine hS.laX 8 rfl rfl ?_
    repeat' ((conv => whnf); first | refine RetC.mk ?_ | refine NzC.mk (by decide) ?_ | refine RngC.mk (by omega) (by omega) ?_ | refine IdxC.mk (by omega) (by omega) ?_ | refine brD (fun _ => ?_) (fun _ => ?_) | refine brND (fun _ => ?_) (fun _ => ?_) | refine brN (fun _ => ?_) (fun _ => ?_) | refine brI (fun _ => ?_) (fun _ => ?_))
    exact ⟨rfl, (hS.keep 7).turns⟩
end
end Go.Proofs.YtakdekkieobbaaaDoor

/-
  Package node, walked: a claim, a tick.
-/
namespace Go.Proofs.YtakdekkieobbaaaDoor
open Go Ev

theorem Ev.St.upd2 {w0 w w' : World} {S T : Nat → Prop} {H : List Ent} {e1 e2 d1 d2 : Ent} (h : St w0 S w (e1 :: e2 :: H)) (k : Ext T w w') (hT : ∀ b, T b → b ∈ e1.foot ∨ b ∈ e2.foot) (l1 : d1.Local) (h1 : d1.holds w') (f1 : d1.foot = e1.foot) (l2 : d2.Local) (h2 : d2.holds w') (f2 : d2.foot = e2.foot) : St w0 S w' (d1 :: d2 :: H) := by
  have hap := List.pairwise_cons.1 h.apart
  have hap2 := List.pairwise_cons.1 hap.2
  have hme1 : e1 ∈ e1 :: e2 :: H := List.mem_cons_self
  have hme2 : e2 ∈ e1 :: e2 :: H := List.mem_cons_of_mem _ List.mem_cons_self
  have hmH : ∀ f ∈ H, f ∈ e1 :: e2 :: H := fun f hf => List.mem_cons_of_mem _ (List.mem_cons_of_mem _ hf)
  have hnT : ∀ f ∈ H, ∀ b ∈ f.foot, ¬ T b := fun f hf b hb ht => (hT b ht).elim (fun h1 => hap.1 f (List.mem_cons_of_mem _ hf) b h1 hb) fun h2 => hap2.1 f hf b h2 hb
  refine ⟨h.ext.then k fun b hb => (hT b hb).elim (fun hb => (h.may e1 hme1 b hb).1) fun hb => (h.may e2 hme2 b hb).1, ?_, ?_, ?_, ?_⟩
  · intro e he
    rcases List.mem_cons.1 he with rfl | he
    · exact h1
    rcases List.mem_cons.1 he with rfl | he
    · exact h2
    · exact h.loc e (hmH e he) w w' (fun b hb => k.block b (h.may e (hmH e he) b hb).2 (hnT e he b hb)) (h.each e (hmH e he))
  · intro e he
    rcases List.mem_cons.1 he with rfl | he
    · exact l1
    rcases List.mem_cons.1 he with rfl | he
    · exact l2
    · exact h.loc e (hmH e he)
  · intro e he b hb
    have key : ∃ f ∈ e1 :: e2 :: H, b ∈ f.foot := by
      rcases List.mem_cons.1 he with rfl | he
      · exact ⟨e1, hme1, f1 ▸ hb⟩
      rcases List.mem_cons.1 he with rfl | he
      · exact ⟨e2, hme2, f2 ▸ hb⟩
      · exact ⟨e, hmH e he, hb⟩
    obtain ⟨f, hf, hb⟩ := key
    exact ⟨(h.may f hf b hb).1, Nat.lt_of_lt_of_le (h.may f hf b hb).2 k.size⟩
  · refine .cons (fun f hf b hb => ?_) (.cons (fun f hf b hb => ?_) hap2.2)
    · rw [f1] at hb
      rcases List.mem_cons.1 hf with rfl | hf
      · rw [f2]
        exact hap.1 e2 List.mem_cons_self b hb
      · exact hap.1 f (List.mem_cons_of_mem _ hf) b hb
    · rw [f2] at hb
      exact hap2.1 f hf b hb

/-- A drawn region, by what it keeps. -/
theorem drawI {P : Program} {τ : Tab} {N : Nat} {σ : Slots} {w : World} (hτ : TabOk P τ) (hm : P.follows .mixedOrders = true) {ops : Array Oper} {Q : Slots → World → Prop} (late : List Nat) (S : World → World → Prop) (order : List Nat)
    (hok : (Region.noSelect ops && Nat.beq order.length ops.size && orderOk ops late order (Array.replicate ops.size false)) = true)
    (h : ∀ w1, w1 = { w with drawn := w.drawn + 1 } → S w1 w1 ∧ evDrawR P τ N ops late (S w1) order Q σ w1) : DrawC P τ N ops Q σ w :=
  drawR hτ hm late S order hok (h _ rfl).1 (by have := (h _ rfl).2; rwa [evDrawR_eq] at this)
theorem LdF.imp {S S' : World → Prop} {b o : Nat} {k : Value → Prop} (hi : ∀ w, S' w → S w) (h : LdF S b o k) : LdF S' b o k := by
  obtain ⟨v, hv, hk⟩ := h
  exact ⟨v, fun w hw => hv w (hi w hw), hk⟩
theorem LdG.imp {S S' : World → Prop} {b o n : Nat} {k : Value → Prop} (hi : ∀ w, S' w → S w) (h : LdG S b o n k) : LdG S' b o n k := by
  obtain ⟨l, h1, hv, hk⟩ := h
  exact ⟨l, h1, fun w hw => hv w (hi w hw), hk⟩

def nodeB (A : NodeA) (N : NodeS) (B : BytS) : List Ent := nodeH A N ++ [blk A.b 103 (encBy B)]
section
variable {w : World} {A : NodeA} {N : NodeS} {B : BytS}
theorem Fresh.foot {w w' : World} {v : Value} {α : Type} {e : TypeId} {sz : Nat} {enc : α → List Value} {xs : List α} (h : Fresh w w' v) : ∀ g ∈ (ownL e sz enc v xs).foot, w.heap.size ≤ g ∧ g < w'.heap.size := fun g hg => h g (by simpa [ownL, own] using hg)
theorem nodeB_H {b : Nat} (h : inF (nodeH A N) b) : inF (nodeB A N B) b := inF_app.2 (.inl h)
theorem nodeB_b : inF (nodeB A N B) A.b := ⟨_, List.mem_of_getElem? (i := 7) rfl, List.mem_singleton.2 rfl⟩
theorem nclaim_ok {E : Nat → Addr} {q m : Nat} (hN : Has w (nodeB A N B)) (hO : NOk m N) (hB : BOk B) (ha : N.role.active = false) (hm : m + 33 ≤ 50000000) (hE : Errs w E q tickErrs) (hq : High (nodeB A N B) q) :
    CallC Tryd.prog 58 #[.pointer (some ⟨A.n, 0, none⟩)] w fun v w' => v = .tuple #[.bool (N.claim B).1.1, errV E (N.claim B).1.2] ∧ Turns w w' (nodeB A N B) (nodeB A (N.claim B).2.1 (N.claim B).2.2) := by
  have hqF : ∀ b, inF (nodeB A N B) b → q ≤ b := hq
  refine fn_intro tabOk Tryd.func58 (by kernel_rfl) rfl Tryd.ntmps58 (Nat.le_of_ble_eq_true rfl) ?_
  have hS := hN.start
  (conv => whnf)
  refine hS.ld 0 rfl rfl ?_
  (conv => whnf)
  refine (role_next (hS.blk 1 rfl) hO.role (hE.sub rfl)).mono ?_
  rintro v w2 ⟨rfl, hx⟩
  replace hS := hS.no hx
  by_cases hnx : N.role.next.2 = 0
  case neg =>
    obtain ⟨j, hj⟩ : ∃ j, N.role.next.2 = j + 1 := ⟨N.role.next.2 - 1, by omega⟩
    rw [show N.claim B = ((false, 0), N, B) from if_pos hnx, hj]
    repeat' ((conv => whnf); first | refine RetC.mk ?_ | refine NzC.mk (by decide) ?_ | refine RngC.mk (by omega) (by omega) ?_ | refine IdxC.mk (by omega) (by omega) ?_ | refine brD (fun _ => ?_) (fun _ => ?_) | refine brND (fun _ => ?_) (fun _ => ?_) | refine brN (fun _ => ?_) (fun _ => ?_) | refine brI (fun _ => ?_) (fun _ => ?_))
    exact ⟨rfl, hS.turns⟩
  have hcl := RoleS.claim_next ha hnx
  have hpos := RoleS.next_pos hO.role hnx
  rw [hnx]
  have hn1 := hS.ne 0 2 rfl rfl (by decide)
  have hn2 := hS.ne 0 7 rfl rfl (by decide)
  (conv => whnf)
  (refine drawS tabOk mixed [] (fun b => b = A.b ∨ b = A.c) [0, 1, 2, 3, 4, 5, 6, 7, 8, 9, 10, 11] (by kernel_rfl) ?_; rintro w1 rfl; replace hS := hS.drew)
  have hK := hS.ref (fun b => b = A.b ∨ b = A.c)
  repeat' ((conv => whnf); first | refine hS.ldF 0 rfl rfl (fun h => h.elim hn2 hn1) ?_)
  refine (clife_ok (hS.blk 2 rfl)).mono ?_
  rintro v w3 ⟨rfl, hx⟩
  replace hS := hS.no hx
  replace hK := hK.trans hx.of_no
  refine KeepC.mk hK ?_
  (conv => whnf)
  refine (cput_ok N.role.next.1 N.cell.li (hS.blk 2 rfl) (hS.blk 7 rfl) hB hO.num ((hE.ext hS.ext hqF).sub rfl) (hqF A.b nodeB_b) (hqF A.c (nodeB_H nodeH_c))).mono ?_
  rintro v w4 ⟨rfl, hx, hB1, hC1⟩
  have hs0 := hS.sel [7, 2, 0, 1, 3, 4, 5, 6] (by decide)
  have hs1 := (Ev.St.upd2 hs0 hx (by simp [blk]) (blk_local _ _ _) hB1 rfl (blk_local _ _ _) hC1 rfl).sel [2, 3, 1, 4, 5, 6, 7, 0] (by decide)
  replace hK := hK.trans hx
  refine KeepC.mk hK ?_
  clear hS hs0 hB1 hC1 hx
  by_cases hp : (N.cell.put B N.role.next.1 N.cell.li).1 = 0
  case neg =>
    obtain ⟨j, hj⟩ : ∃ j, (N.cell.put B N.role.next.1 N.cell.li).1 = j + 1 := ⟨(N.cell.put B N.role.next.1 N.cell.li).1 - 1, by omega⟩
    rw [show N.claim B = ((false, (N.cell.put B N.role.next.1 N.cell.li).1), { N with cell := (N.cell.put B N.role.next.1 N.cell.li).2.2 }, (N.cell.put B N.role.next.1 N.cell.li).2.1) by
      unfold NodeS.claim
      rw [if_neg (fun h => h hnx), if_pos hp], hj]
    repeat' ((conv => whnf); first | refine RetC.mk ?_ | refine NzC.mk (by decide) ?_ | refine RngC.mk (by omega) (by omega) ?_ | refine IdxC.mk (by omega) (by omega) ?_ | refine brD (fun _ => ?_) (fun _ => ?_) | refine brND (fun _ => ?_) (fun _ => ?_) | refine brN (fun _ => ?_) (fun _ => ?_) | refine brI (fun _ => ?_) (fun _ => ?_))
    exact ⟨rfl, St.turns hs1⟩
  rw [show N.claim B = ((true, 0), { N with cell := (N.cell.put B N.role.next.1 N.cell.li).2.2, role := (N.role.claim N.role.next.1).2, tab := putAll N.now N.tab (flowsOf N.mir.cells) }, (N.cell.put B N.role.next.1 N.cell.li).2.1) by
    unfold NodeS.claim
    rw [if_neg (fun h => h hnx), if_neg (fun h => h hp)], hp]
  generalize (N.cell.put B N.role.next.1 N.cell.li).2 = BC at hs1 ⊢
  obtain ⟨B2, C2⟩ := BC
  have hS : St w (inF (nodeB A N B)) w4 (nodeB A { N with cell := C2 } B2) := hs1
  clear hs1
  (conv => whnf)
  refine hS.ld 0 rfl rfl ?_
  (conv => whnf)
  refine (role_claim N.role.next.1 (hS.blk 1 rfl) hO.role ((hE.ext hS.ext hqF).sub rfl) (hqF A.r (nodeB_H nodeH_r))).mono ?_
  rintro v w' ⟨rfl, hx, hB⟩
  replace hS := hS.upd 1 rfl hx (fun c hc => by subst hc; exact List.mem_singleton.2 rfl) (blk_local _ _ _) hB (fun c hc => .inl hc)
  clear hx hB
  replace hS : St w (inF (nodeB A N B)) w' (nodeB A { N with cell := C2, role := (N.role.claim N.role.next.1).2 } B2) := hS
  rw [show (N.role.claim N.role.next.1).1 = 0 by rw [hcl]]
  (conv => whnf)
  refine hS.ld 0 rfl rfl ?_
  (conv => whnf)
  refine (flows_ok (hS.blk 5 rfl) hO.mir).mono ?_
  rintro v w' ⟨a, c, rfl, hx, ho, hf⟩
  replace hS := hS.made hx ownL_local ho (fun g hg => hf g (by simpa [ownL, own] using hg))
  clear hx ho hf
  have hlen := flowsOf_len N.mir.cells
  rw [hO.mir] at hlen
  generalize flowsOf N.mir.cells = l at hS hlen ⊢
  generalize (N.role.claim N.role.next.1).2 = r2 at hS ⊢
  have hn0 := hO.n0
  have hn9 := hO.n1
  (conv => whnf)
  refine loopR tabOk (fun σ w' q => ∃ k : Nat, σ = [(49, .int .i64 k), (48, .int .i64 l.length), (47, .slice a l.length c), (0, .pointer (some ⟨A.n, 0, none⟩))] ∧ q = l.length - k ∧ k ≤ l.length ∧ St w (inF (nodeB A N B)) w' (nodeB A { N with cell := C2, role := r2, tab := putAll N.now N.tab (l.take k) } B2 ++ [ownL 74 8 encFlow (.slice a l.length c) l]))
    (σ' := [(49, .int .i64 ((0 : Nat) : Int)), (48, .int .i64 l.length), (47, .slice a l.length c), (0, .pointer (some ⟨A.n, 0, none⟩))]) (n := l.length) ⟨rfl, rfl, rfl, rfl, trivial⟩ ⟨0, rfl, rfl, Nat.zero_le _, hS⟩ ?_
  clear hS
  rintro _ w1 q' ⟨k, rfl, rfl, hk, hS⟩
  (conv => whnf)
  refine brD (fun h3 => ?_) (fun h3 => ?_)
  · obtain ⟨b0, o0, x, hxk, _, rfl, hb0, hc⟩ := (ownL_slc (G := fun _ => True) codFlow (hS.get 8 rfl) (fun _ _ => trivial)).at (k := k) (by omega)
    have hstep := putAll_step N.now N.tab hxk
    have hTk := putAll_ok N.now (l.take k) hO.tab
    have hlk : (l.take k).length ≤ 32 := by rw [List.length_take]; omega
    generalize putAll N.now N.tab (l.take k) = T at hS hstep hTk
    (conv => whnf)
    refine IdxC.mk (by omega) (by omega) ?_
    (conv => whnf)
    refine ⟨encFlow x, rfl, hc, ?_⟩
    (conv => whnf)
    refine hS.new (fun bf w' hbf hS => ?_)
    (conv => whnf)
    refine hS.st 9 rfl (Nat.le_of_ble_eq_true rfl) rfl (fun w' hS => ?_)
    replace hS : St w (inF (nodeB A N B)) w' (nodeB A { N with cell := C2, role := r2, tab := T } B2 ++ [ownL 74 8 encFlow (.slice (some ⟨b0, o0, none⟩) l.length c) l, blk bf 74 (encFlow x)]) := hS
    have hf1 := hS.ne 0 9 rfl rfl (by decide)
    have hf3 := hS.ne 9 3 rfl rfl (by decide)
    have hf4 := hS.ne 0 3 rfl rfl (by decide)
    have htb := timeS_bound x.proto x.state
    (conv => whnf)
    refine drawI tabOk mixed [] (fun w1 w' => Ext (· = bf) w1 w' ∧ ∃ y, Blk w' bf 74 (encFlow { x with til := y })) [0, 1, 2, 3, 4, 5, 6, 7, 8, 9, 10, 11] (by kernel_rfl) ?_
    rintro w1 rfl
    replace hS := hS.drew
    refine ⟨⟨Ext.refl _ _, x.til, hS.blk 9 rfl⟩, ?_⟩
    have hK := hS.ref (· = bf)
    (conv => whnf)
    refine LdF.imp (fun _ h => h.1) (hS.ldF 0 rfl rfl hf1 ?_)
    (conv => whnf)
    refine ⟨.int .i64 x.proto, fun w' h => by obtain ⟨_, y, h⟩ := h; rw [h.cell]; rfl, ?_⟩
    (conv => whnf)
    refine ⟨.int .i64 x.state, fun w' h => by obtain ⟨_, y, h⟩ := h; rw [h.cell]; rfl, ?_⟩
    (conv => whnf)
    refine (time_ok _ _ _).mono ?_
    rintro v w' ⟨rfl, hx⟩
    replace hS := hS.no hx
    replace hK := hK.trans hx.of_no
    refine KeepC.mk ⟨hK, x.til, hS.blk 9 rfl⟩ ?_
    (conv => whnf)
    refine RngC.mk (by dsimp only; omega) (by dsimp only; omega) ?_
    (conv => whnf)
    refine hS.stK hK 9 rfl (Nat.le_of_ble_eq_true rfl) rfl rfl (fun w' hK hS => KeepC.mk ⟨hK, N.now + timeS x.proto x.state, hS.blk 9 rfl⟩ ?_)
    clear hK hx
    (conv => whnf)
    (refine drawS tabOk mixed [] (fun b => b = A.t) [0, 1, 2, 3, 4, 5, 6, 7, 8] (by kernel_rfl) ?_; rintro w1 rfl; replace hS := hS.drew)
    repeat' ((conv => whnf); first | refine hS.laXF 9 rfl rfl hf3 ?_ | refine hS.ldF 0 rfl rfl hf4 ?_)
    refine (tput_ok { x with til := N.now + timeS x.proto x.state } (hS.blk 3 rfl) hTk.len (hTk.verOk (by omega)) ((hE.ext hS.ext hqF).sub rfl) (hqF A.t (nodeB_H nodeH_t))).mono ?_
    rintro v w' ⟨rfl, hx, hB⟩
    refine KeepC.mk hx ?_
    replace hS := hS.upd 3 rfl hx (fun c hc => by subst hc; exact List.mem_singleton.2 rfl) (blk_local _ _ _) hB (fun c hc => .inl hc)
    rw [← hstep] at hS
    (conv => whnf)
    refine RngC.mk (by omega) (by omega) ?_
    (conv => whnf)
    refine LoopE.mk ⟨_, [(49, .int .i64 ((k + 1 : Nat) : Int)), (48, _), (47, _), (0, _)], ?_, ⟨rfl, rfl, rfl, rfl, trivial⟩, ⟨k + 1, rfl, rfl, by omega, hS.keep 9⟩⟩
    omega
  · obtain rfl : k = l.length := by omega
    rw [List.take_length] at hS
    repeat' ((conv => whnf); first | refine RetC.mk ?_ | refine NzC.mk (by decide) ?_ | refine RngC.mk (by omega) (by omega) ?_ | refine IdxC.mk (by omega) (by omega) ?_ | refine brD (fun _ => ?_) (fun _ => ?_) | refine brND (fun _ => ?_) (fun _ => ?_) | refine brN (fun _ => ?_) (fun _ => ?_) | refine brI (fun _ => ?_) (fun _ => ?_))
    exact ⟨rfl, St.turns (hS.keep 8)⟩
end

/-! ### Notes -/
structure NoteV where
  fro : Int
  life : Int
  epoch : Int
  claim : Bool
  a : Option Addr
  n : Nat
  c : Nat
def encNV (x : NoteV) : List Value := [.int .i64 x.fro, .int .i64 x.life, .int .i64 x.epoch, .bool x.claim, .slice x.a x.n x.c]
theorem codNote : Codec 5 encNV := ⟨fun _ => rfl, fun _ => rfl, by decide⟩
def noNV : NoteV := ⟨0, 0, 0, false, none, 0, 0⟩
def noteV (x : Option Addr) (y : Nat) (n : NoteS) : NoteV := ⟨n.fro, n.life, n.epoch, n.claim, if n.claim = true then none else x, n.cells.length, if n.claim = true then 0 else y⟩
def cellsOfN (l : List NoteS) : List CellS := l.flatMap (·.cells)
def noteH (a : Option Addr) (c : Nat) (x : Option Addr) (y : Nat) (l : List NoteS) : List Ent := [ownL 118 5 encNV (.slice a (l.map (noteV x y)).length c) (l.map (noteV x y)), ownL 76 10 encCell (.slice x (cellsOfN l).length y) (cellsOfN l)]
theorem Ev.St.addNil {α : Type} {w0 w : World} {S : Nat → Prop} {H : List Ent} (h : St w0 S w H) (e : TypeId) (sz : Nat) (enc : α → List Value) : St w0 S w (H ++ [ownL e sz enc (.slice none 0 0) []]) :=
  h.add ownL_local (own_nil _ _ _) (by simp [ownL, own, Value.ownBlock]) (by simp [ownL, own, Value.ownBlock])
theorem Ev.St.high {q : Nat} {w0 w : World} {S : Nat → Prop} {H : List Ent} (h : St w0 S w H) (h1 : ∀ b, S b → q ≤ b) (h2 : q ≤ w0.heap.size) : High H q := fun b ⟨e, he, hb⟩ => (h.may e he b hb).1.elim (h1 b) (fun h => Nat.le_trans h2 h)
theorem Ev.St.turned {w0 w w' : World} {S : Nat → Prop} {H H' : List Ent} (h : St w0 S w H) (k : Turns w w' H H') : St w0 S w' H' := by
  have := St.call (B := []) (by simpa using h) k
  simpa using this
theorem notes_ff {N : NodeS} (h : N.beat = false) : N.notes false = ([], N) := by
  unfold NodeS.notes
  rw [h]
  rfl
theorem notes_tf {N : NodeS} (h : N.beat = false) : N.notes true = ([⟨N.id, N.cell.li, N.role.epoch, true, []⟩], N) := by
  unfold NodeS.notes
  rw [h]
  rfl
theorem notes_t {N : NodeS} {cl : Bool} (h : N.beat = true) : N.notes cl = ([⟨N.id, N.cell.li, N.role.epoch, true, []⟩, ⟨N.id, N.cell.li, N.role.epoch, false, outC N.tab.cells (N.tel.picks N.tab.cells)⟩], { N with tel := N.tel.next N.tab.cells }) := by
  unfold NodeS.notes
  rw [h, if_pos (.inr rfl), if_pos rfl, if_pos rfl]
  rfl
section
variable {w : World} {A : NodeA} {N : NodeS} {B : BytS}
theorem ntick_ok {E : Nat → Addr} {q m : Nat} (hN : Has w (nodeB A N B)) (hO : NOk m N) (hBB : BOk B) (hm : m + 34 ≤ 50000000) (hE : Errs w E q tickErrs) (hq : High (nodeB A N B) q) :
    CallC Tryd.prog 32 #[.pointer (some ⟨A.n, 0, none⟩)] w fun v w' => ∃ a c x y, v = .tuple #[.slice a ((N.tick B).2.1.map (noteV x y)).length c, errV E (N.tick B).1] ∧ Turns w w' (nodeB A N B) (nodeB A (N.tick B).2.2.1 (N.tick B).2.2.2 ++ noteH a c x y (N.tick B).2.1) := by
  have hqF : ∀ b, inF (nodeB A N B) b → q ≤ b := hq
  have hqw : q ≤ w.heap.size := by
    have h1 := hq A.n (nodeB_H nodeH_n)
    have h2 := hN.lt _ (List.mem_of_getElem? (i := 0) rfl) A.n (List.mem_singleton.2 rfl)
    omega
  have hn0 := hO.n0
  refine fn_intro tabOk Tryd.func32 (by kernel_rfl) rfl Tryd.ntmps32 (Nat.le_of_ble_eq_true rfl) ?_
  have hS := hN.start
  (conv => whnf)
  refine hS.ld 0 rfl rfl ?_
  (conv => whnf)
  refine brD (fun hn => ?_) (fun hn => ?_)
  · rw [show N.tick B = (2, [], N, B) from if_pos hn]
    (conv => whnf)
    (refine drawS tabOk mixed [] No [0, 1, 2] (by kernel_rfl) ?_; rintro w1 rfl; replace hS := hS.drew)
    (conv => whnf)
    refine hS.ldrF (hE.at_ 2 rfl) (Errs.out hE 2 rfl hqF) id ?_
    repeat' ((conv => whnf); first | refine RetC.mk ?_ | refine NzC.mk (by decide) ?_ | refine RngC.mk (by omega) (by omega) ?_ | refine IdxC.mk (by omega) (by omega) ?_ | refine brD (fun _ => ?_) (fun _ => ?_) | refine brND (fun _ => ?_) (fun _ => ?_) | refine brN (fun _ => ?_) (fun _ => ?_) | refine brI (fun _ => ?_) (fun _ => ?_))
    exact ⟨none, 0, none, 0, rfl, St.turns ((hS.addNil 118 5 encNV).addNil 76 10 encCell)⟩
  (conv => whnf)
  refine hS.ld 0 rfl rfl ?_
  (conv => whnf)
  refine RngC.mk (by omega) (by omega) ?_
  (conv => whnf)
  refine hS.st 0 rfl (Nat.le_of_ble_eq_true rfl) rfl (fun w' hS => ?_)
  replace hS : St w (inF (nodeB A N B)) w' (nodeB A { N with now := N.now + 1 } B) := hS
  have hn3 := hS.ne 0 3 rfl rfl (by decide)
  (conv => whnf)
  (refine drawS tabOk mixed [] (fun b => b = A.t) [0, 1, 2, 3, 4, 5, 6, 7, 8] (by kernel_rfl) ?_; rintro w1 rfl; replace hS := hS.drew)
  repeat' ((conv => whnf); first | refine hS.ldF 0 rfl rfl hn3 ?_)
  refine (texpire_ok (N.now + 1) (hS.blk 3 rfl) hO.tab (by omega) ((hE.ext hS.ext hqF).sub rfl) (hqF A.t (nodeB_H nodeH_t))).mono ?_
  rintro v w' ⟨⟨a', c', rfl⟩, hx, hB1, _, _⟩
  refine KeepC.mk hx ?_
  have hB := hB1
  replace hS := hS.upd 3 rfl hx (fun c hc => by subst hc; exact List.mem_singleton.2 rfl) (blk_local _ _ _) hB (fun c hc => .inl hc)
  (conv => whnf)
  refine hS.ld 0 rfl rfl ?_
  (conv => whnf)
  refine (role_tick (hS.blk 1 rfl) hO.role).mono ?_
  rintro v w' ⟨rfl, hx, hB⟩
  replace hS := hS.upd 1 rfl hx (fun c hc => by subst hc; exact List.mem_singleton.2 rfl) (blk_local _ _ _) hB (fun c hc => .inl hc)
  replace hS : St w (inF (nodeB A N B)) w' (nodeB A N.step.2 B) := hS
  have hO1 := hO.step (by omega) (by omega)
  clear hx hB hB1
  cases hs : N.role.tick.1
  · have hO2 := hO1
    rw [show N.tick B = (0, (N.step.2.notes false).1, (N.step.2.notes false).2, B) by
      unfold NodeS.tick
      rw [if_neg hn, if_neg (by rw [show N.step.1 = N.role.tick.1 from rfl, hs]; decide)]]
    generalize N.step.2 = N2 at hS hO2 ⊢
    (conv => whnf)
    refine hS.ld 0 rfl rfl ?_
    (conv => whnf)
    refine (role_active (hS.blk 1 rfl)).mono ?_
    rintro v w9 ⟨rfl, rfl⟩
    replace hS := hS.addNil 118 5 encNV
    cases hact : (N2).role.active
    · have hbt : (N2).beat = false := by
        unfold NodeS.beat
        rw [hact]
        rfl
      repeat' ((conv => whnf); first | refine RetC.mk ?_ | refine NzC.mk (by decide) ?_ | refine RngC.mk (by omega) (by omega) ?_ | refine IdxC.mk (by omega) (by omega) ?_ | refine brD (fun _ => ?_) (fun _ => ?_) | refine brND (fun _ => ?_) (fun _ => ?_) | refine brN (fun _ => ?_) (fun _ => ?_) | refine brI (fun _ => ?_) (fun _ => ?_))
      rw [notes_ff hbt]
      exact ⟨none, 0, none, 0, rfl, St.turns (hS.addNil 76 10 encCell)⟩
    · skip
      (conv => whnf)
      refine hS.ld 0 rfl rfl ?_
      (conv => whnf)
      refine NzC.mk (by decide) ?_
      (conv => whnf)
      refine brD (fun hz => ?_) (fun hz => ?_)
      · have hbt : (N2).beat = true := by
          unfold NodeS.beat
          rw [hact, decide_eq_true hz]
          rfl
        (conv => whnf)
        (refine drawS tabOk mixed [] (No) [0, 1, 2, 3, 4, 5, 6, 7, 8, 10, 11, 12, 13, 9, 14, 15, 16, 17, 18] (by kernel_rfl) ?_; rintro w1 rfl; replace hS := hS.drew)
        have hK := hS.ref No
        repeat' ((conv => whnf); first | refine hS.ldF 0 rfl rfl id ?_)
        refine (clife_ok (hS.blk 2 rfl)).mono ?_
        rintro v w' ⟨rfl, hx⟩
        replace hS := hS.no hx
        replace hK := hK.trans hx
        refine KeepC.mk hK ?_
        clear hx
        (conv => whnf)
        refine (role_epoch (hS.blk 1 rfl)).mono ?_
        rintro v w2 ⟨rfl, rfl⟩
        refine KeepC.mk hK ?_
        (conv => whnf)
        refine hS.litX Tryd.underlying77 (sz := 5) (by kernel_rfl) (z := .agg (encNV noNV).toArray) (by kernel_rfl) rfl rfl (cs := encNV ⟨(N2).id, (N2).cell.li, (N2).role.epoch, true, none, 0, 0⟩) (by rfl) (fun b9 w3 hb9 hx hS => ?_)
        replace hK := hK.trans hx
        refine KeepC.mk hK ?_
        clear hx
        (conv => whnf)
        refine hS.appX codNote 8 (ys := [⟨(N2).id, (N2).cell.li, (N2).role.epoch, true, none, 0, 0⟩]) (G := fun _ => True) Tryd.underlying77 (bytes := 56) (by kernel_rfl) (z := .agg (encNV noNV).toArray) (by kernel_rfl) rfl rfl (Slc.of_blk codNote (hS.blk 9 rfl) rfl (by simp) (fun _ _ => trivial) rfl) (by unfold maxLen; decide) (by decide) (fun a1 c1 w4 hx hS => ?_)
        replace hK := hK.trans (hx.mono fun q h => by simp [Value.ownBlock] at h)
        refine KeepC.mk hK ?_
        clear hx hK
        replace hS := hS.keep 9
        replace hS : St w (inF (nodeB A N B)) w4 (nodeB A (N2) (B) ++ [ownL 118 5 encNV (.slice a1 1 c1) [⟨(N2).id, (N2).cell.li, (N2).role.epoch, true, none, 0, 0⟩]]) := hS
        (conv => whnf)
        refine brD (fun _ => ?_) (fun h => absurd hz h)
        (conv => whnf)
        have hn4 := hS.ne 0 4 rfl rfl (by decide)
        have hn8 : ¬ (Value.slice a1 1 c1).ownBlock = some A.n := fun h => hS.apartAt 0 8 rfl rfl (by decide) _ (List.mem_singleton.2 rfl) (by simp only [ownL, own]; rw [h]; simp)
        (refine drawS tabOk mixed [] (fun b => b = A.x ∨ (Value.slice a1 1 c1).ownBlock = some b) [0, 1, 2, 3, 4, 5, 6, 7, 8, 10, 11, 12, 13, 15, 16, 17, 18, 9, 14, 19, 20, 21, 22, 23] (by kernel_rfl) ?_; rintro w1 rfl; replace hS := hS.drew)
        have hK := hS.ref (fun b => b = A.x ∨ (Value.slice a1 1 c1).ownBlock = some b)
        repeat' ((conv => whnf); first | refine hS.ldF 0 rfl rfl (fun h => h.elim hn4 hn8) ?_)
        refine (clife_ok (hS.blk 2 rfl)).mono ?_
        rintro v w' ⟨rfl, hx⟩
        replace hS := hS.no hx
        replace hK := hK.trans hx.of_no
        refine KeepC.mk hK ?_
        clear hx
        (conv => whnf)
        refine (role_epoch (hS.blk 1 rfl)).mono ?_
        rintro v w2 ⟨rfl, rfl⟩
        refine KeepC.mk hK ?_
        (conv => whnf)
        refine (tlNext_ok (hS.blk 4 rfl) (hS.blk 3 rfl) hO2.tab.len hO2.told hO2.cur).mono ?_
        rintro v w' ⟨⟨x, y, rfl⟩, hx, hB, ho, hf⟩
        replace hS := hS.updMade 4 rfl hx (fun c hc => by subst hc; exact List.mem_singleton.2 rfl) (blk_local _ _ _) hB (fun c hc => hc) ownL_local ho (fun g hg => hf g (by simpa [ownL, own] using hg))
        replace hK := hK.trans (hx.mono fun b h => .inl h)
        refine KeepC.mk hK ?_
        clear hx hB ho hf
        (conv => whnf)
        refine hS.litX Tryd.underlying77 (sz := 5) (by kernel_rfl) (z := .agg (encNV noNV).toArray) (by kernel_rfl) rfl rfl (cs := encNV ⟨(N2).id, (N2).cell.li, (N2).role.epoch, false, x, ((N2).tel.picks (N2).tab.cells).length, y⟩) (by rfl) (fun b9 w3 hb9 hx hS => ?_)
        replace hK := hK.trans hx.of_no
        refine KeepC.mk hK ?_
        clear hx
        (conv => whnf)
        refine hS.appX codNote 8 (ys := [⟨(N2).id, (N2).cell.li, (N2).role.epoch, false, x, ((N2).tel.picks (N2).tab.cells).length, y⟩]) (G := fun _ => True) Tryd.underlying77 (bytes := 56) (by kernel_rfl) (z := .agg (encNV noNV).toArray) (by kernel_rfl) rfl rfl (Slc.of_blk codNote (hS.blk 10 rfl) rfl (by simp) (fun _ _ => trivial) rfl) (by unfold maxLen; show 1 + 1 ≤ _; decide) (by show (1 + 1) * 56 ≤ _; decide) (fun a2 c2 w4 hx hS => ?_)
        replace hK := hK.trans (hx.mono fun q h => .inr h)
        refine KeepC.mk hK ?_
        clear hx hK
        replace hS := hS.keep 10
        repeat' ((conv => whnf); first | refine RetC.mk ?_ | refine NzC.mk (by decide) ?_ | refine RngC.mk (by omega) (by omega) ?_ | refine IdxC.mk (by omega) (by omega) ?_ | refine brD (fun _ => ?_) (fun _ => ?_) | refine brND (fun _ => ?_) (fun _ => ?_) | refine brN (fun _ => ?_) (fun _ => ?_) | refine brI (fun _ => ?_) (fun _ => ?_))
        rw [notes_t hbt]
        replace hS : St w (inF (nodeB A N B)) w4 (nodeB A { (N2) with tel := (N2).tel.next (N2).tab.cells } (B) ++ noteH a2 c2 x y [⟨(N2).id, (N2).cell.li, (N2).role.epoch, true, []⟩, ⟨(N2).id, (N2).cell.li, (N2).role.epoch, false, outC (N2).tab.cells ((N2).tel.picks (N2).tab.cells)⟩]) := by
          have hc : cellsOfN [⟨(N2).id, (N2).cell.li, (N2).role.epoch, true, []⟩, ⟨(N2).id, (N2).cell.li, (N2).role.epoch, false, outC (N2).tab.cells ((N2).tel.picks (N2).tab.cells)⟩] = outC (N2).tab.cells ((N2).tel.picks (N2).tab.cells) := by simp [cellsOfN]
          have hv : [(⟨(N2).id, (N2).cell.li, (N2).role.epoch, true, []⟩ : NoteS), ⟨(N2).id, (N2).cell.li, (N2).role.epoch, false, outC (N2).tab.cells ((N2).tel.picks (N2).tab.cells)⟩].map (noteV x y) = [⟨(N2).id, (N2).cell.li, (N2).role.epoch, true, none, 0, 0⟩, ⟨(N2).id, (N2).cell.li, (N2).role.epoch, false, x, ((N2).tel.picks (N2).tab.cells).length, y⟩] := by simp [noteV, outC_len]
          unfold noteH
          rw [hc, hv, outC_len]
          exact hS
        exact ⟨a2, c2, x, y, rfl, St.turns hS⟩
      · have hbt : (N2).beat = false := by
          unfold NodeS.beat
          rw [decide_eq_false hz, Bool.and_false]
        (conv => whnf)
        refine brD (fun h => absurd h hz) (fun _ => ?_)
        repeat' ((conv => whnf); first | refine RetC.mk ?_ | refine NzC.mk (by decide) ?_ | refine RngC.mk (by omega) (by omega) ?_ | refine IdxC.mk (by omega) (by omega) ?_ | refine brD (fun _ => ?_) (fun _ => ?_) | refine brND (fun _ => ?_) (fun _ => ?_) | refine brN (fun _ => ?_) (fun _ => ?_) | refine brI (fun _ => ?_) (fun _ => ?_))
        rw [notes_ff hbt]
        exact ⟨none, 0, none, 0, rfl, St.turns (hS.addNil 76 10 encCell)⟩
  · have hs1 : N.step.1 = true := hs
    (conv => whnf)
    refine (nclaim_ok hS.has hO1 hBB (step_active hs1) (by omega) (hE.ext hS.ext hqF) (hS.high hqF hqw)).mono ?_
    rintro v w' ⟨rfl, ht⟩
    replace hS := hS.turned ht
    have hO2 := hO1.claim (step_active hs1) B
    rw [show N.tick B = if (N.step.2.claim B).1.2 ≠ 0 then ((N.step.2.claim B).1.2, [], (N.step.2.claim B).2.1, (N.step.2.claim B).2.2) else (0, ((N.step.2.claim B).2.1.notes (N.step.2.claim B).1.1).1, ((N.step.2.claim B).2.1.notes (N.step.2.claim B).1.1).2, (N.step.2.claim B).2.2) by
      unfold NodeS.tick
      rw [if_neg hn, if_pos hs1]]
    generalize N.step.2.claim B = R at hS hO2 ⊢
    obtain ⟨⟨cl, e⟩, N2, B2⟩ := R
    replace hS : St w (inF (nodeB A N B)) w' (nodeB A N2 B2) := hS
    replace hO2 : NOk (m + 1 + 33) N2 := hO2
    cases e with
    | succ j =>
      rw [if_pos (show ((cl, j + 1), N2, B2).1.2 ≠ 0 by simp)]
      repeat' ((conv => whnf); first | refine RetC.mk ?_ | refine NzC.mk (by decide) ?_ | refine RngC.mk (by omega) (by omega) ?_ | refine IdxC.mk (by omega) (by omega) ?_ | refine brD (fun _ => ?_) (fun _ => ?_) | refine brND (fun _ => ?_) (fun _ => ?_) | refine brN (fun _ => ?_) (fun _ => ?_) | refine brI (fun _ => ?_) (fun _ => ?_))
      exact ⟨none, 0, none, 0, rfl, St.turns ((hS.addNil 118 5 encNV).addNil 76 10 encCell)⟩
    | zero =>
      rw [if_neg (show ¬ ((cl, 0), N2, B2).1.2 ≠ 0 by simp)]
      dsimp only
      cases cl
      · skip
        (conv => whnf)
        refine hS.ld 0 rfl rfl ?_
        (conv => whnf)
        refine (role_active (hS.blk 1 rfl)).mono ?_
        rintro v w9 ⟨rfl, rfl⟩
        replace hS := hS.addNil 118 5 encNV
        cases hact : (N2).role.active
        · have hbt : (N2).beat = false := by
            unfold NodeS.beat
            rw [hact]
            rfl
          repeat' ((conv => whnf); first | refine RetC.mk ?_ | refine NzC.mk (by decide) ?_ | refine RngC.mk (by omega) (by omega) ?_ | refine IdxC.mk (by omega) (by omega) ?_ | refine brD (fun _ => ?_) (fun _ => ?_) | refine brND (fun _ => ?_) (fun _ => ?_) | refine brN (fun _ => ?_) (fun _ => ?_) | refine brI (fun _ => ?_) (fun _ => ?_))
          rw [notes_ff hbt]
          exact ⟨none, 0, none, 0, rfl, St.turns (hS.addNil 76 10 encCell)⟩
        · skip
          (conv => whnf)
          refine hS.ld 0 rfl rfl ?_
          (conv => whnf)
          refine NzC.mk (by decide) ?_
          (conv => whnf)
          refine brD (fun hz => ?_) (fun hz => ?_)
          · have hbt : (N2).beat = true := by
              unfold NodeS.beat
              rw [hact, decide_eq_true hz]
              rfl
            (conv => whnf)
            (refine drawS tabOk mixed [] (No) [0, 1, 2, 3, 4, 5, 6, 7, 8, 10, 11, 12, 13, 9, 14, 15, 16, 17, 18] (by kernel_rfl) ?_; rintro w1 rfl; replace hS := hS.drew)
            have hK := hS.ref No
            repeat' ((conv => whnf); first | refine hS.ldF 0 rfl rfl id ?_)
            refine (clife_ok (hS.blk 2 rfl)).mono ?_
            rintro v w' ⟨rfl, hx⟩
            replace hS := hS.no hx
            replace hK := hK.trans hx
            refine KeepC.mk hK ?_
            clear hx
            (conv => whnf)
            refine (role_epoch (hS.blk 1 rfl)).mono ?_
            rintro v w2 ⟨rfl, rfl⟩
            refine KeepC.mk hK ?_
            (conv => whnf)
            refine hS.litX Tryd.underlying77 (sz := 5) (by kernel_rfl) (z := .agg (encNV noNV).toArray) (by kernel_rfl) rfl rfl (cs := encNV ⟨(N2).id, (N2).cell.li, (N2).role.epoch, true, none, 0, 0⟩) (by rfl) (fun b9 w3 hb9 hx hS => ?_)
            replace hK := hK.trans hx
            refine KeepC.mk hK ?_
            clear hx
            (conv => whnf)
            refine hS.appX codNote 8 (ys := [⟨(N2).id, (N2).cell.li, (N2).role.epoch, true, none, 0, 0⟩]) (G := fun _ => True) Tryd.underlying77 (bytes := 56) (by kernel_rfl) (z := .agg (encNV noNV).toArray) (by kernel_rfl) rfl rfl (Slc.of_blk codNote (hS.blk 9 rfl) rfl (by simp) (fun _ _ => trivial) rfl) (by unfold maxLen; decide) (by decide) (fun a1 c1 w4 hx hS => ?_)
            replace hK := hK.trans (hx.mono fun q h => by simp [Value.ownBlock] at h)
            refine KeepC.mk hK ?_
            clear hx hK
            replace hS := hS.keep 9
            replace hS : St w (inF (nodeB A N B)) w4 (nodeB A (N2) (B2) ++ [ownL 118 5 encNV (.slice a1 1 c1) [⟨(N2).id, (N2).cell.li, (N2).role.epoch, true, none, 0, 0⟩]]) := hS
            (conv => whnf)
            refine brD (fun _ => ?_) (fun h => absurd hz h)
            (conv => whnf)
            have hn4 := hS.ne 0 4 rfl rfl (by decide)
            have hn8 : ¬ (Value.slice a1 1 c1).ownBlock = some A.n := fun h => hS.apartAt 0 8 rfl rfl (by decide) _ (List.mem_singleton.2 rfl) (by simp only [ownL, own]; rw [h]; simp)
            (refine drawS tabOk mixed [] (fun b => b = A.x ∨ (Value.slice a1 1 c1).ownBlock = some b) [0, 1, 2, 3, 4, 5, 6, 7, 8, 10, 11, 12, 13, 15, 16, 17, 18, 9, 14, 19, 20, 21, 22, 23] (by kernel_rfl) ?_; rintro w1 rfl; replace hS := hS.drew)
            have hK := hS.ref (fun b => b = A.x ∨ (Value.slice a1 1 c1).ownBlock = some b)
            repeat' ((conv => whnf); first | refine hS.ldF 0 rfl rfl (fun h => h.elim hn4 hn8) ?_)
            refine (clife_ok (hS.blk 2 rfl)).mono ?_
            rintro v w' ⟨rfl, hx⟩
            replace hS := hS.no hx
            replace hK := hK.trans hx.of_no
            refine KeepC.mk hK ?_
            clear hx
            (conv => whnf)
            refine (role_epoch (hS.blk 1 rfl)).mono ?_
            rintro v w2 ⟨rfl, rfl⟩
            refine KeepC.mk hK ?_
            (conv => whnf)
            refine (tlNext_ok (hS.blk 4 rfl) (hS.blk 3 rfl) hO2.tab.len hO2.told hO2.cur).mono ?_
            rintro v w' ⟨⟨x, y, rfl⟩, hx, hB, ho, hf⟩
            replace hS := hS.updMade 4 rfl hx (fun c hc => by subst hc; exact List.mem_singleton.2 rfl) (blk_local _ _ _) hB (fun c hc => hc) ownL_local ho (fun g hg => hf g (by simpa [ownL, own] using hg))
            replace hK := hK.trans (hx.mono fun b h => .inl h)
            refine KeepC.mk hK ?_
            clear hx hB ho hf
            (conv => whnf)
            refine hS.litX Tryd.underlying77 (sz := 5) (by kernel_rfl) (z := .agg (encNV noNV).toArray) (by kernel_rfl) rfl rfl (cs := encNV ⟨(N2).id, (N2).cell.li, (N2).role.epoch, false, x, ((N2).tel.picks (N2).tab.cells).length, y⟩) (by rfl) (fun b9 w3 hb9 hx hS => ?_)
            replace hK := hK.trans hx.of_no
            refine KeepC.mk hK ?_
            clear hx
            (conv => whnf)
            refine hS.appX codNote 8 (ys := [⟨(N2).id, (N2).cell.li, (N2).role.epoch, false, x, ((N2).tel.picks (N2).tab.cells).length, y⟩]) (G := fun _ => True) Tryd.underlying77 (bytes := 56) (by kernel_rfl) (z := .agg (encNV noNV).toArray) (by kernel_rfl) rfl rfl (Slc.of_blk codNote (hS.blk 10 rfl) rfl (by simp) (fun _ _ => trivial) rfl) (by unfold maxLen; show 1 + 1 ≤ _; decide) (by show (1 + 1) * 56 ≤ _; decide) (fun a2 c2 w4 hx hS => ?_)
            replace hK := hK.trans (hx.mono fun q h => .inr h)
            refine KeepC.mk hK ?_
            clear hx hK
            replace hS := hS.keep 10
            repeat' ((conv => whnf); first | refine RetC.mk ?_ | refine NzC.mk (by decide) ?_ | refine RngC.mk (by omega) (by omega) ?_ | refine IdxC.mk (by omega) (by omega) ?_ | refine brD (fun _ => ?_) (fun _ => ?_) | refine brND (fun _ => ?_) (fun _ => ?_) | refine brN (fun _ => ?_) (fun _ => ?_) | refine brI (fun _ => ?_) (fun _ => ?_))
            rw [notes_t hbt]
            replace hS : St w (inF (nodeB A N B)) w4 (nodeB A { (N2) with tel := (N2).tel.next (N2).tab.cells } (B2) ++ noteH a2 c2 x y [⟨(N2).id, (N2).cell.li, (N2).role.epoch, true, []⟩, ⟨(N2).id, (N2).cell.li, (N2).role.epoch, false, outC (N2).tab.cells ((N2).tel.picks (N2).tab.cells)⟩]) := by
              have hc : cellsOfN [⟨(N2).id, (N2).cell.li, (N2).role.epoch, true, []⟩, ⟨(N2).id, (N2).cell.li, (N2).role.epoch, false, outC (N2).tab.cells ((N2).tel.picks (N2).tab.cells)⟩] = outC (N2).tab.cells ((N2).tel.picks (N2).tab.cells) := by simp [cellsOfN]
              have hv : [(⟨(N2).id, (N2).cell.li, (N2).role.epoch, true, []⟩ : NoteS), ⟨(N2).id, (N2).cell.li, (N2).role.epoch, false, outC (N2).tab.cells ((N2).tel.picks (N2).tab.cells)⟩].map (noteV x y) = [⟨(N2).id, (N2).cell.li, (N2).role.epoch, true, none, 0, 0⟩, ⟨(N2).id, (N2).cell.li, (N2).role.epoch, false, x, ((N2).tel.picks (N2).tab.cells).length, y⟩] := by simp [noteV, outC_len]
              unfold noteH
              rw [hc, hv, outC_len]
              exact hS
            exact ⟨a2, c2, x, y, rfl, St.turns hS⟩
          · have hbt : (N2).beat = false := by
              unfold NodeS.beat
              rw [decide_eq_false hz, Bool.and_false]
            (conv => whnf)
            refine brD (fun h => absurd h hz) (fun _ => ?_)
            repeat' ((conv => whnf); first | refine RetC.mk ?_ | refine NzC.mk (by decide) ?_ | refine RngC.mk (by omega) (by omega) ?_ | refine IdxC.mk (by omega) (by omega) ?_ | refine brD (fun _ => ?_) (fun _ => ?_) | refine brND (fun _ => ?_) (fun _ => ?_) | refine brN (fun _ => ?_) (fun _ => ?_) | refine brI (fun _ => ?_) (fun _ => ?_))
            rw [notes_ff hbt]
            exact ⟨none, 0, none, 0, rfl, St.turns (hS.addNil 76 10 encCell)⟩
      · skip
        (conv => whnf)
        refine hS.ld 0 rfl rfl ?_
        (conv => whnf)
        refine (role_active (hS.blk 1 rfl)).mono ?_
        rintro v w9 ⟨rfl, rfl⟩
        replace hS := hS.addNil 118 5 encNV
        cases hact : (N2).role.active
        · have hbt : (N2).beat = false := by
            unfold NodeS.beat
            rw [hact]
            rfl
          (conv => whnf)
          (refine drawS tabOk mixed [] (No) [0, 1, 2, 3, 4, 5, 6, 7, 8, 10, 11, 12, 13, 9, 14, 15, 16, 17, 18] (by kernel_rfl) ?_; rintro w1 rfl; replace hS := hS.drew)
          have hK := hS.ref No
          repeat' ((conv => whnf); first | refine hS.ldF 0 rfl rfl id ?_)
          refine (clife_ok (hS.blk 2 rfl)).mono ?_
          rintro v w' ⟨rfl, hx⟩
          replace hS := hS.no hx
          replace hK := hK.trans hx
          refine KeepC.mk hK ?_
          clear hx
          (conv => whnf)
          refine (role_epoch (hS.blk 1 rfl)).mono ?_
          rintro v w2 ⟨rfl, rfl⟩
          refine KeepC.mk hK ?_
          (conv => whnf)
          refine hS.litX Tryd.underlying77 (sz := 5) (by kernel_rfl) (z := .agg (encNV noNV).toArray) (by kernel_rfl) rfl rfl (cs := encNV ⟨(N2).id, (N2).cell.li, (N2).role.epoch, true, none, 0, 0⟩) (by rfl) (fun b9 w3 hb9 hx hS => ?_)
          replace hK := hK.trans hx
          refine KeepC.mk hK ?_
          clear hx
          (conv => whnf)
          refine hS.appX codNote 8 (ys := [⟨(N2).id, (N2).cell.li, (N2).role.epoch, true, none, 0, 0⟩]) (G := fun _ => True) Tryd.underlying77 (bytes := 56) (by kernel_rfl) (z := .agg (encNV noNV).toArray) (by kernel_rfl) rfl rfl (Slc.of_blk codNote (hS.blk 9 rfl) rfl (by simp) (fun _ _ => trivial) rfl) (by unfold maxLen; decide) (by decide) (fun a1 c1 w4 hx hS => ?_)
          replace hK := hK.trans (hx.mono fun q h => by simp [Value.ownBlock] at h)
          refine KeepC.mk hK ?_
          clear hx hK
          replace hS := hS.keep 9
          repeat' ((conv => whnf); first | refine RetC.mk ?_ | refine NzC.mk (by decide) ?_ | refine RngC.mk (by omega) (by omega) ?_ | refine IdxC.mk (by omega) (by omega) ?_ | refine brD (fun _ => ?_) (fun _ => ?_) | refine brND (fun _ => ?_) (fun _ => ?_) | refine brN (fun _ => ?_) (fun _ => ?_) | refine brI (fun _ => ?_) (fun _ => ?_))
          rw [notes_tf hbt]
          exact ⟨a1, c1, none, 0, rfl, St.turns (hS.addNil 76 10 encCell)⟩
        · skip
          (conv => whnf)
          refine hS.ld 0 rfl rfl ?_
          (conv => whnf)
          refine NzC.mk (by decide) ?_
          by_cases hz : (N2).now.tmod 3 = 0
          · have hbt : (N2).beat = true := by
              unfold NodeS.beat
              rw [hact, decide_eq_true hz]
              rfl
            (conv => whnf)
            (refine drawS tabOk mixed [] (No) [0, 1, 2, 3, 4, 5, 6, 7, 8, 10, 11, 12, 13, 9, 14, 15, 16, 17, 18] (by kernel_rfl) ?_; rintro w1 rfl; replace hS := hS.drew)
            have hK := hS.ref No
            repeat' ((conv => whnf); first | refine hS.ldF 0 rfl rfl id ?_)
            refine (clife_ok (hS.blk 2 rfl)).mono ?_
            rintro v w' ⟨rfl, hx⟩
            replace hS := hS.no hx
            replace hK := hK.trans hx
            refine KeepC.mk hK ?_
            clear hx
            (conv => whnf)
            refine (role_epoch (hS.blk 1 rfl)).mono ?_
            rintro v w2 ⟨rfl, rfl⟩
            refine KeepC.mk hK ?_
            (conv => whnf)
            refine hS.litX Tryd.underlying77 (sz := 5) (by kernel_rfl) (z := .agg (encNV noNV).toArray) (by kernel_rfl) rfl rfl (cs := encNV ⟨(N2).id, (N2).cell.li, (N2).role.epoch, true, none, 0, 0⟩) (by rfl) (fun b9 w3 hb9 hx hS => ?_)
            replace hK := hK.trans hx
            refine KeepC.mk hK ?_
            clear hx
            (conv => whnf)
            refine hS.appX codNote 8 (ys := [⟨(N2).id, (N2).cell.li, (N2).role.epoch, true, none, 0, 0⟩]) (G := fun _ => True) Tryd.underlying77 (bytes := 56) (by kernel_rfl) (z := .agg (encNV noNV).toArray) (by kernel_rfl) rfl rfl (Slc.of_blk codNote (hS.blk 9 rfl) rfl (by simp) (fun _ _ => trivial) rfl) (by unfold maxLen; decide) (by decide) (fun a1 c1 w4 hx hS => ?_)
            replace hK := hK.trans (hx.mono fun q h => by simp [Value.ownBlock] at h)
            refine KeepC.mk hK ?_
            clear hx hK
            replace hS := hS.keep 9
            replace hS : St w (inF (nodeB A N B)) w4 (nodeB A (N2) (B2) ++ [ownL 118 5 encNV (.slice a1 1 c1) [⟨(N2).id, (N2).cell.li, (N2).role.epoch, true, none, 0, 0⟩]]) := hS
            (conv => whnf)
            refine brD (fun _ => ?_) (fun h => absurd hz h)
            (conv => whnf)
            have hn4 := hS.ne 0 4 rfl rfl (by decide)
            have hn8 : ¬ (Value.slice a1 1 c1).ownBlock = some A.n := fun h => hS.apartAt 0 8 rfl rfl (by decide) _ (List.mem_singleton.2 rfl) (by simp only [ownL, own]; rw [h]; simp)
            (refine drawS tabOk mixed [] (fun b => b = A.x ∨ (Value.slice a1 1 c1).ownBlock = some b) [0, 1, 2, 3, 4, 5, 6, 7, 8, 10, 11, 12, 13, 15, 16, 17, 18, 9, 14, 19, 20, 21, 22, 23] (by kernel_rfl) ?_; rintro w1 rfl; replace hS := hS.drew)
            have hK := hS.ref (fun b => b = A.x ∨ (Value.slice a1 1 c1).ownBlock = some b)
            repeat' ((conv => whnf); first | refine hS.ldF 0 rfl rfl (fun h => h.elim hn4 hn8) ?_)
            refine (clife_ok (hS.blk 2 rfl)).mono ?_
            rintro v w' ⟨rfl, hx⟩
            replace hS := hS.no hx
            replace hK := hK.trans hx.of_no
            refine KeepC.mk hK ?_
            clear hx
            (conv => whnf)
            refine (role_epoch (hS.blk 1 rfl)).mono ?_
            rintro v w2 ⟨rfl, rfl⟩
            refine KeepC.mk hK ?_
            (conv => whnf)
            refine (tlNext_ok (hS.blk 4 rfl) (hS.blk 3 rfl) hO2.tab.len hO2.told hO2.cur).mono ?_
            rintro v w' ⟨⟨x, y, rfl⟩, hx, hB, ho, hf⟩
            replace hS := hS.updMade 4 rfl hx (fun c hc => by subst hc; exact List.mem_singleton.2 rfl) (blk_local _ _ _) hB (fun c hc => hc) ownL_local ho (fun g hg => hf g (by simpa [ownL, own] using hg))
            replace hK := hK.trans (hx.mono fun b h => .inl h)
            refine KeepC.mk hK ?_
            clear hx hB ho hf
            (conv => whnf)
            refine hS.litX Tryd.underlying77 (sz := 5) (by kernel_rfl) (z := .agg (encNV noNV).toArray) (by kernel_rfl) rfl rfl (cs := encNV ⟨(N2).id, (N2).cell.li, (N2).role.epoch, false, x, ((N2).tel.picks (N2).tab.cells).length, y⟩) (by rfl) (fun b9 w3 hb9 hx hS => ?_)
            replace hK := hK.trans hx.of_no
            refine KeepC.mk hK ?_
            clear hx
            (conv => whnf)
            refine hS.appX codNote 8 (ys := [⟨(N2).id, (N2).cell.li, (N2).role.epoch, false, x, ((N2).tel.picks (N2).tab.cells).length, y⟩]) (G := fun _ => True) Tryd.underlying77 (bytes := 56) (by kernel_rfl) (z := .agg (encNV noNV).toArray) (by kernel_rfl) rfl rfl (Slc.of_blk codNote (hS.blk 10 rfl) rfl (by simp) (fun _ _ => trivial) rfl) (by unfold maxLen; show 1 + 1 ≤ _; decide) (by show (1 + 1) * 56 ≤ _; decide) (fun a2 c2 w4 hx hS => ?_)
            replace hK := hK.trans (hx.mono fun q h => .inr h)
            refine KeepC.mk hK ?_
            clear hx hK
            replace hS := hS.keep 10
            repeat' ((conv => whnf); first | refine RetC.mk ?_ | refine NzC.mk (by decide) ?_ | refine RngC.mk (by omega) (by omega) ?_ | refine IdxC.mk (by omega) (by omega) ?_ | refine brD (fun _ => ?_) (fun _ => ?_) | refine brND (fun _ => ?_) (fun _ => ?_) | refine brN (fun _ => ?_) (fun _ => ?_) | refine brI (fun _ => ?_) (fun _ => ?_))
            rw [notes_t hbt]
            replace hS : St w (inF (nodeB A N B)) w4 (nodeB A { (N2) with tel := (N2).tel.next (N2).tab.cells } (B2) ++ noteH a2 c2 x y [⟨(N2).id, (N2).cell.li, (N2).role.epoch, true, []⟩, ⟨(N2).id, (N2).cell.li, (N2).role.epoch, false, outC (N2).tab.cells ((N2).tel.picks (N2).tab.cells)⟩]) := by
              have hc : cellsOfN [⟨(N2).id, (N2).cell.li, (N2).role.epoch, true, []⟩, ⟨(N2).id, (N2).cell.li, (N2).role.epoch, false, outC (N2).tab.cells ((N2).tel.picks (N2).tab.cells)⟩] = outC (N2).tab.cells ((N2).tel.picks (N2).tab.cells) := by simp [cellsOfN]
              have hv : [(⟨(N2).id, (N2).cell.li, (N2).role.epoch, true, []⟩ : NoteS), ⟨(N2).id, (N2).cell.li, (N2).role.epoch, false, outC (N2).tab.cells ((N2).tel.picks (N2).tab.cells)⟩].map (noteV x y) = [⟨(N2).id, (N2).cell.li, (N2).role.epoch, true, none, 0, 0⟩, ⟨(N2).id, (N2).cell.li, (N2).role.epoch, false, x, ((N2).tel.picks (N2).tab.cells).length, y⟩] := by simp [noteV, outC_len]
              unfold noteH
              rw [hc, hv, outC_len]
              exact hS
            exact ⟨a2, c2, x, y, rfl, St.turns hS⟩
          · have hbt : (N2).beat = false := by
              unfold NodeS.beat
              rw [decide_eq_false hz, Bool.and_false]
            (conv => whnf)
            (refine drawS tabOk mixed [] (No) [0, 1, 2, 3, 4, 5, 6, 7, 8, 10, 11, 12, 13, 9, 14, 15, 16, 17, 18] (by kernel_rfl) ?_; rintro w1 rfl; replace hS := hS.drew)
            have hK := hS.ref No
            repeat' ((conv => whnf); first | refine hS.ldF 0 rfl rfl id ?_)
            refine (clife_ok (hS.blk 2 rfl)).mono ?_
            rintro v w' ⟨rfl, hx⟩
            replace hS := hS.no hx
            replace hK := hK.trans hx
            refine KeepC.mk hK ?_
            clear hx
            (conv => whnf)
            refine (role_epoch (hS.blk 1 rfl)).mono ?_
            rintro v w2 ⟨rfl, rfl⟩
            refine KeepC.mk hK ?_
            (conv => whnf)
            refine hS.litX Tryd.underlying77 (sz := 5) (by kernel_rfl) (z := .agg (encNV noNV).toArray) (by kernel_rfl) rfl rfl (cs := encNV ⟨(N2).id, (N2).cell.li, (N2).role.epoch, true, none, 0, 0⟩) (by rfl) (fun b9 w3 hb9 hx hS => ?_)
            replace hK := hK.trans hx
            refine KeepC.mk hK ?_
            clear hx
            (conv => whnf)
            refine hS.appX codNote 8 (ys := [⟨(N2).id, (N2).cell.li, (N2).role.epoch, true, none, 0, 0⟩]) (G := fun _ => True) Tryd.underlying77 (bytes := 56) (by kernel_rfl) (z := .agg (encNV noNV).toArray) (by kernel_rfl) rfl rfl (Slc.of_blk codNote (hS.blk 9 rfl) rfl (by simp) (fun _ _ => trivial) rfl) (by unfold maxLen; decide) (by decide) (fun a1 c1 w4 hx hS => ?_)
            replace hK := hK.trans (hx.mono fun q h => by simp [Value.ownBlock] at h)
            refine KeepC.mk hK ?_
            clear hx hK
            replace hS := hS.keep 9
            (conv => whnf)
            refine brD (fun h => absurd h hz) (fun _ => ?_)
            repeat' ((conv => whnf); first | refine RetC.mk ?_ | refine NzC.mk (by decide) ?_ | refine RngC.mk (by omega) (by omega) ?_ | refine IdxC.mk (by omega) (by omega) ?_ | refine brD (fun _ => ?_) (fun _ => ?_) | refine brND (fun _ => ?_) (fun _ => ?_) | refine brN (fun _ => ?_) (fun _ => ?_) | refine brI (fun _ => ?_) (fun _ => ?_))
            rw [notes_tf hbt]
            exact ⟨a1, c1, none, 0, rfl, St.turns (hS.addNil 76 10 encCell)⟩
end
end Go.Proofs.YtakdekkieobbaaaDoor

/-
  Package node, walked: hearing a note, rules anew, what is told of a node, a new node.
-/
namespace Go.Proofs.YtakdekkieobbaaaDoor
open Go Ev
theorem Ev.Slc.extN {α : Type} {w w' : World} {S : Nat → Prop} {sz n : Nat} {enc : α → List Value} {G : α → Prop} {a : Option Addr} {xs : List α} (h : Slc w sz enc G a n xs) (hx : Ext S w w') (hS : 0 < n → ∀ b o, a = some ⟨b, o, none⟩ → ¬ S b) : Slc w' sz enc G a n xs := by
  rcases Nat.eq_zero_or_pos n with h0 | h0
  · subst h0
    obtain rfl : xs = [] := List.length_eq_zero_iff.1 h.len
    exact ⟨h.len, h.max, fun k x hk => by simp at hk, h.good⟩
  · exact h.ext hx (hS h0)
section
variable {w : World} {A : NodeA} {N : NodeS} {B : BytS}
theorem rclone_ok {G : RuleS → Prop} {a : Option Addr} {n c : Nat} {xs : List RuleS} (hx : Slc w 5 encRule G a n xs) (hn : n ≤ 1000) :
    CallC Tryd.prog 54 #[.slice a n c] w fun v w' => ∃ a' c', v = .slice a' n c' ∧ Ext No w w' ∧ (ownL 24 5 encRule v xs).holds w' ∧ Fresh w w' v := by
  have hl := hx.len
  refine fn_intro tabOk Tryd.func54 (by kernel_rfl) rfl Tryd.ntmps54 (Nat.le_of_ble_eq_true rfl) ?_
  have hS := St.start w No
  cases a with
  | none =>
    have hn0 : n = 0 := by
      rcases Nat.eq_zero_or_pos n with h | h
      · exact h
      · obtain ⟨_, _, _, _, _, h, _⟩ := hx.at h
        cases h
    subst hn0
    obtain rfl : xs = [] := List.length_eq_zero_iff.1 hl
    repeat' ((conv => whnf); first | refine RetC.mk ?_ | refine NzC.mk (by decide) ?_ | refine RngC.mk (by omega) (by omega) ?_ | refine IdxC.mk (by omega) (by omega) ?_ | refine brD (fun _ => ?_) (fun _ => ?_) | refine brND (fun _ => ?_) (fun _ => ?_) | refine brN (fun _ => ?_) (fun _ => ?_) | refine brI (fun _ => ?_) (fun _ => ?_))
    have hS := hS.addNil 24 5 encRule
    exact ⟨none, 0, rfl, hS.ext, hS.get 0 rfl, hS.freshAt 0 rfl⟩
  | some a0 =>
    (conv => whnf)
    refine hS.lit0 Tryd.underlying22 (sz := 5) (by kernel_rfl) (fun b0 w1 hS => ?_)
    (conv => whnf)
    refine hS.appS codRule 0 (xs := []) Tryd.underlying22 (bytes := 32) (by kernel_rfl) (z := .agg (encRule noRule).toArray) (by kernel_rfl) rfl rfl (hx.no hS.ext) (by unfold maxLen; simp; omega) (by simp; omega) (fun a' c' w' hS => ?_)
    repeat' ((conv => whnf); first | refine RetC.mk ?_ | refine NzC.mk (by decide) ?_ | refine RngC.mk (by omega) (by omega) ?_ | refine IdxC.mk (by omega) (by omega) ?_ | refine brD (fun _ => ?_) (fun _ => ?_) | refine brND (fun _ => ?_) (fun _ => ?_) | refine brN (fun _ => ?_) (fun _ => ?_) | refine brI (fun _ => ?_) (fun _ => ?_))
    have hn0 : ([] : List RuleS).length + n = n := by simp
    rw [hn0] at hS ⊢
    exact ⟨a', c', rfl, hS.ext, hS.get 0 rfl, hS.freshAt 0 rfl⟩
theorem nlife_ok (hN : Has w (nodeH A N)) : CallC Tryd.prog 28 #[.pointer (some ⟨A.n, 0, none⟩)] w fun v w' => v = .int .i64 (N.cell.li : Int) ∧ Ext No w w' := by
  refine fn_intro tabOk Tryd.func28 (by kernel_rfl) rfl Tryd.ntmps28 (Nat.le_of_ble_eq_true rfl) ?_
  have hS := hN.start
  (conv => whnf)
  refine hS.ld 0 rfl rfl ?_
  (conv => whnf)
  refine (clife_ok (hS.blk 2 rfl)).mono ?_
  rintro v w' ⟨rfl, hx⟩
  repeat' ((conv => whnf); first | refine RetC.mk ?_ | refine NzC.mk (by decide) ?_ | refine RngC.mk (by omega) (by omega) ?_ | refine IdxC.mk (by omega) (by omega) ?_ | refine brD (fun _ => ?_) (fun _ => ?_) | refine brND (fun _ => ?_) (fun _ => ?_) | refine brN (fun _ => ?_) (fun _ => ?_) | refine brI (fun _ => ?_) (fun _ => ?_))
  exact ⟨rfl, hx⟩
theorem nnow_ok (hN : Has w (nodeH A N)) : CallC Tryd.prog 45 #[.pointer (some ⟨A.n, 0, none⟩)] w fun v w' => v = .int .i64 N.now ∧ w = w' := by
  refine fn_intro tabOk Tryd.func45 (by kernel_rfl) rfl Tryd.ntmps45 (Nat.le_of_ble_eq_true rfl) ?_
  have hS := hN.start
  (conv => whnf)
  refine hS.ld 0 rfl rfl ?_
  repeat' ((conv => whnf); first | refine RetC.mk ?_ | refine NzC.mk (by decide) ?_ | refine RngC.mk (by omega) (by omega) ?_ | refine IdxC.mk (by omega) (by omega) ?_ | refine brD (fun _ => ?_) (fun _ => ?_) | refine brND (fun _ => ?_) (fun _ => ?_) | refine brN (fun _ => ?_) (fun _ => ?_) | refine brI (fun _ => ?_) (fun _ => ?_))
  exact ⟨rfl, rfl⟩
theorem ntable_ok (hN : Has w (nodeH A N)) (hl : N.tab.cells.length = 32) : CallC Tryd.prog 31 #[.pointer (some ⟨A.n, 0, none⟩)] w fun v w' => ∃ a' c', v = .slice a' 32 c' ∧ Ext No w w' ∧ (ownL 76 10 encCell v N.tab.cells).holds w' ∧ Fresh w w' v := by
  refine fn_intro tabOk Tryd.func31 (by kernel_rfl) rfl Tryd.ntmps31 (Nat.le_of_ble_eq_true rfl) ?_
  have hS := hN.start
  (conv => whnf)
  refine hS.ld 0 rfl rfl ?_
  (conv => whnf)
  refine (tcells_ok (hS.blk 3 rfl) hl).mono ?_
  rintro v w' ⟨a, c, rfl, hx, ho, hf⟩
  repeat' ((conv => whnf); first | refine RetC.mk ?_ | refine NzC.mk (by decide) ?_ | refine RngC.mk (by omega) (by omega) ?_ | refine IdxC.mk (by omega) (by omega) ?_ | refine brD (fun _ => ?_) (fun _ => ?_) | refine brND (fun _ => ?_) (fun _ => ?_) | refine brN (fun _ => ?_) (fun _ => ?_) | refine brI (fun _ => ?_) (fun _ => ?_))
  exact ⟨a, c, rfl, hx, ho, hf⟩
theorem nnew_id {E : Nat → Addr} {q : Nat} (id : Int) (b : Value) (r : Value) (h : ¬ (id = 0 ∨ id = 1)) (hE : Errs w E q tickErrs) :
    CallC Tryd.prog 27 #[.int .i64 id, b, r] w fun v w' => v = .tuple #[.pointer none, errV E 2] ∧ Ext No w w' := by
  refine fn_intro tabOk Tryd.func27 (by kernel_rfl) rfl Tryd.ntmps27 (Nat.le_of_ble_eq_true rfl) ?_
  (conv => whnf)
  refine (tnew_bad id w (hE.sub rfl) h).mono ?_
  rintro v w1 ⟨rfl, hx⟩
  repeat' ((conv => whnf); first | refine RetC.mk ?_ | refine NzC.mk (by decide) ?_ | refine RngC.mk (by omega) (by omega) ?_ | refine IdxC.mk (by omega) (by omega) ?_ | refine brD (fun _ => ?_) (fun _ => ?_) | refine brND (fun _ => ?_) (fun _ => ?_) | refine brN (fun _ => ?_) (fun _ => ?_) | refine brI (fun _ => ?_) (fun _ => ?_))
  exact ⟨rfl, hx⟩
theorem nnew_rules {E : Nat → Addr} {q : Nat} {G : RuleS → Prop} {a : Option Addr} {n c : Nat} {xs : List RuleS} (id : Int) (b : Value) (hid : id = 0 ∨ id = 1) (hx : Slc w 5 encRule G a n xs) (h0 : (faultL xs).1 ≠ 0) (hE : Errs w E q tickErrs) :
    CallC Tryd.prog 27 #[.int .i64 id, b, .slice a n c] w fun v w' => (∃ e, v = .tuple #[.pointer none, e] ∧ FaultV E w w' e (faultL xs).1 (faultL xs).2) ∧ Ext No w w' := by
  refine fn_intro tabOk Tryd.func27 (by kernel_rfl) rfl Tryd.ntmps27 (Nat.le_of_ble_eq_true rfl) ?_
  (conv => whnf)
  refine (tnew_ok id w hid).mono ?_
  rintro v w1 ⟨bt, rfl, _, hx1, _⟩
  (conv => whnf)
  refine (rcheck_ok (hx.no hx1) ((hE.ext hx1 (fun _ h => h.elim)).sub rfl)).mono ?_
  rintro v w2 ⟨hF, hx2⟩
  have hF2 : FaultV E w w2 v (faultL xs).1 (faultL xs).2 := by
    rcases hF with h | ⟨h1, h2, f, h3, h4, h5⟩
    · exact .inl h
    · exact .inr ⟨h1, h2, f, h3, Nat.le_trans hx1.size h4, h5⟩
  obtain ⟨j, hj⟩ : ∃ j, (faultL xs).1 = j + 1 := ⟨(faultL xs).1 - 1, by omega⟩
  rw [hj] at hF hF2 ⊢
  rcases hF with ⟨_, rfl⟩ | ⟨_, _, f, rfl, _⟩
  · repeat' ((conv => whnf); first | refine RetC.mk ?_ | refine NzC.mk (by decide) ?_ | refine RngC.mk (by omega) (by omega) ?_ | refine IdxC.mk (by omega) (by omega) ?_ | refine brD (fun _ => ?_) (fun _ => ?_) | refine brND (fun _ => ?_) (fun _ => ?_) | refine brN (fun _ => ?_) (fun _ => ?_) | refine brI (fun _ => ?_) (fun _ => ?_))
    exact ⟨⟨_, rfl, hF2⟩, hx1.trans hx2⟩
  · repeat' ((conv => whnf); first | refine RetC.mk ?_ | refine NzC.mk (by decide) ?_ | refine RngC.mk (by omega) (by omega) ?_ | refine IdxC.mk (by omega) (by omega) ?_ | refine brD (fun _ => ?_) (fun _ => ?_) | refine brND (fun _ => ?_) (fun _ => ?_) | refine brN (fun _ => ?_) (fun _ => ?_) | refine brI (fun _ => ?_) (fun _ => ?_))
    exact ⟨⟨_, rfl, hF2⟩, hx1.trans hx2⟩
theorem nnew_ok {E : Nat → Addr} {q b : Nat} {G : RuleS → Prop} {a : Option Addr} {n c : Nat} {xs : List RuleS} (id : Int) (hid : id = 0 ∨ id = 1) (hx : Slc w 5 encRule G a n xs) (hn : n ≤ 1000) (h0 : (faultL xs).1 = 0) (hsrc : 0 < n → ∀ b0 o0, a = some ⟨b0, o0, none⟩ → b0 ≠ b)
    (hb : Blk w b 103 (encBy B)) (hB : BOk B) (hon : B.off = false) (hE : Errs w E q tickErrs) (hq : q ≤ b) :
    CallC Tryd.prog 27 #[.int .i64 id, .pointer (some ⟨b, 0, none⟩), .slice a n c] w fun v w' =>
      ((newN id B xs).1 = 0 ∧ ∃ A : NodeA, A.b = b ∧ v = .tuple #[.pointer (some ⟨A.n, 0, none⟩), .nilIface] ∧ Turns w w' [blk b 103 (encBy B)] (nodeB A (newN id B xs).2.1 (newN id B xs).2.2)) ∨
      ((newN id B xs).1 ≠ 0 ∧ v = .tuple #[.pointer none, errV E (newN id B xs).1] ∧ Ext (· = b) w w' ∧ Blk w' b 103 (encBy (newN id B xs).2.2)) := by
  have hl := hx.len
  have hH : Has w [blk b 103 (encBy B)] := ((St.start w (· = b)).add (blk_local b _ _) hb (by simp [blk]; exact hb.lt) (by simp)).has
  have hin : ∀ d, inF [blk b 103 (encBy B)] d → d = b := fun d ⟨e, he, hd⟩ => by
    obtain rfl := List.mem_singleton.1 he
    exact List.mem_singleton.1 hd
  have hqF : ∀ d, inF [blk b 103 (encBy B)] d → q ≤ d := fun d hd => by rw [hin d hd]; exact hq
  have hqw : q ≤ w.heap.size := Nat.le_trans hq (Nat.le_of_lt hb.lt)
  have hsr : 0 < n → ∀ b0 o0, a = some ⟨b0, o0, none⟩ → ¬ inF [blk b 103 (encBy B)] b0 := fun h b0 o0 ha hd => hsrc h b0 o0 ha (hin _ hd)
  have hS := hH.start
  clear hb
  refine fn_intro tabOk Tryd.func27 (by kernel_rfl) rfl Tryd.ntmps27 (Nat.le_of_ble_eq_true rfl) ?_
  (conv => whnf)
  refine (tnew_ok id w hid).mono ?_
  rintro v w1 ⟨bt, rfl, hb, hx', hB1⟩
  replace hS := hS.made hx' (blk_local _ _ _) hB1 (by simp [blk]; exact ⟨hb, hB1.lt⟩)
  clear hx' hB1
  (conv => whnf)
  refine (rcheck_ok (hx.extN hS.ext hsr) ((hE.ext hS.ext hqF).sub rfl)).mono ?_
  rintro v w2 ⟨hF, hx'⟩
  replace hS := hS.no hx'
  clear hx'
  obtain rfl : v = .nilIface := by
    rw [h0] at hF
    rcases hF with ⟨_, h⟩ | ⟨_, h, _⟩
    · exact h
    · exact absurd h (by decide)
  clear hF
  (conv => whnf)
  refine (copen_ok (hS.blk 0 rfl) hB.len hon).mono ?_
  rintro v w3 ⟨bc, rfl, hbc, hx', hB1⟩
  replace hS := hS.made hx' (blk_local _ _ _) hB1 (by simp [blk]; exact ⟨hbc, hB1.lt⟩)
  have hqc : q ≤ bc := hS.high hqF hqw bc ⟨_, List.mem_of_getElem? (i := 2) rfl, List.mem_singleton.2 rfl⟩
  clear hx' hB1
  have hlt := openN_lt B.data 2
  generalize hC : openS B.data = C at hS
  have hlt : C.num < 4294967296 ∧ C.ep < 4294967296 ∧ C.li < 4294967296 := by rw [← hC]; exact hlt
  (conv => whnf)
  refine (cepoch_ok (hS.blk 2 rfl)).mono ?_
  rintro v w4 ⟨rfl, hx'⟩
  replace hS := hS.no hx'
  (conv => whnf)
  refine (clife_ok (hS.blk 2 rfl)).mono ?_
  rintro v w5 ⟨rfl, hx'⟩
  replace hS := hS.no hx'
  (conv => whnf)
  refine RngC.mk (by omega) (by omega) ?_
  (conv => whnf)
  refine (cput_ok C.ep (C.li + 1) (hS.blk 2 rfl) (hS.blk 0 rfl) hB hlt.1 ((hE.ext hS.ext hqF).sub rfl) hq hqc).mono ?_
  rintro v w6 ⟨rfl, hx', hB1, hC1⟩
  have hs0 := hS.sel [0, 2, 1] (by decide)
  have hs1 := (Ev.St.upd2 hs0 hx' (by simp [blk]) (blk_local _ _ _) hB1 rfl (blk_local _ _ _) hC1 rfl).sel [0, 2, 1] (by decide)
  clear hs0 hS hB1 hC1 hx'
  have hnew : newN id B xs = ((C.put B C.ep (C.li + 1)).1, .born id (C.put B C.ep (C.li + 1)).2.2 xs, (C.put B C.ep (C.li + 1)).2.1) := by rw [← hC]; rfl
  have hep := nput_ep0 C B C.ep (C.li + 1)
  rw [hnew]
  generalize C.put B C.ep (C.li + 1) = R at hs1 hep ⊢
  obtain ⟨k, B2, C2⟩ := R
  have hS : St w (inF [blk b 103 (encBy B)]) w6 [blk b 103 (encBy B2), blk bt 147 (encM ⟨2000 + id * 24, emptyCells⟩), blk bc 149 (encCl b C2)] := hs1
  clear hs1
  dsimp only at hep ⊢
  cases k with
  | succ j =>
    repeat' ((conv => whnf); first | refine RetC.mk ?_ | refine NzC.mk (by decide) ?_ | refine RngC.mk (by omega) (by omega) ?_ | refine IdxC.mk (by omega) (by omega) ?_ | refine brD (fun _ => ?_) (fun _ => ?_) | refine brND (fun _ => ?_) (fun _ => ?_) | refine brN (fun _ => ?_) (fun _ => ?_) | refine brI (fun _ => ?_) (fun _ => ?_))
    exact .inr ⟨Nat.succ_ne_zero j, rfl, hS.ext.mono hin, hS.blk 0 rfl⟩
  | zero =>
    obtain ⟨he, _⟩ := hep rfl
    (conv => whnf)
    refine (cepoch_ok (hS.blk 2 rfl)).mono ?_
    rintro v w7 ⟨rfl, hx'⟩
    replace hS := hS.no hx'
    clear hx'
    (conv => whnf)
    refine (role_new id C2.ep _ hid (by omega) (by omega)).mono ?_
    rintro v w8 ⟨br, rfl, hbr, hx', hB1⟩
    replace hS := hS.made hx' (blk_local _ _ _) hB1 (by simp [blk]; exact ⟨hbr, hB1.lt⟩)
    clear hx' hB1
    (conv => whnf)
    refine (tlNew_ok bt _).mono ?_
    rintro v w9 ⟨bx, rfl, hbx, hx', hB1⟩
    replace hS := hS.made hx' (blk_local _ _ _) hB1 (by simp [blk]; exact ⟨hbx, hB1.lt⟩)
    clear hx' hB1
    (conv => whnf)
    refine (new_ok _).mono ?_
    rintro v w10 ⟨bm, rfl, hbm, hx', hB1⟩
    replace hS := hS.made hx' (blk_local _ _ _) hB1 (by simp [blk]; exact ⟨hbm, hB1.lt⟩)
    clear hx' hB1
    (conv => whnf)
    refine (rclone_ok (hx.extN hS.ext hsr) hn).mono ?_
    rintro v w11 ⟨ra, rc, rfl, hx', ho, hf⟩
    replace hS := hS.made hx' ownL_local ho (fun g hg => hf g (by simpa [ownL, own] using hg))
    clear hx' ho hf
    (conv => whnf)
    refine hS.new (fun bn w12 hbn hS => ?_)
    replace hS : St w (inF [blk b 103 (encBy B)]) w12 [blk b 103 (encBy B2), blk bt 147 (encM ⟨2000 + id * 24, emptyCells⟩), blk bc 149 (encCl b C2), blk br 114 (encRole ⟨id, C2.ep, 0, false⟩), blk bx 156 (encTel bt tel0), blk bm 158 (encM ⟨0, emptyCells⟩), ownL 24 5 encRule (.slice ra n rc) xs, blk bn 70 (encNode ⟨bn, br, bc, bt, bx, bm, b, ra, rc⟩ (.born id C2 xs))] := by
      rw [show n = xs.length from hl.symm] at hS ⊢
      exact hS
    have hS2 := hS.sel [7, 3, 2, 1, 4, 5, 6, 0] (by decide)
    repeat' ((conv => whnf); first | refine RetC.mk ?_ | refine NzC.mk (by decide) ?_ | refine RngC.mk (by omega) (by omega) ?_ | refine IdxC.mk (by omega) (by omega) ?_ | refine brD (fun _ => ?_) (fun _ => ?_) | refine brND (fun _ => ?_) (fun _ => ?_) | refine brN (fun _ => ?_) (fun _ => ?_) | refine brI (fun _ => ?_) (fun _ => ?_))
    refine .inl ⟨rfl, ⟨bn, br, bc, bt, bx, bm, b, ra, rc⟩, rfl, rfl, ?_⟩
    rw [show n = xs.length from hl.symm] at hS2
    exact St.turns hS2
theorem born_ok {id : Int} {C : CelS} {xs : List RuleS} (hid : id = 0 ∨ id = 1) (h1 : C.num < 4294967296) (h2 : C.ep ≤ 1073741824) (h3 : C.li ≤ 1073741824) (h0 : (faultL xs).1 = 0) : NOk 0 (.born id C xs) :=
  ⟨hid, Int.le_refl _, by show (0 : Int) ≤ _; decide, ⟨hid, Int.natCast_nonneg _, by show (C.ep : Int) ≤ _; omega, Int.le_refl _, by show (0 : Int) ≤ _; decide⟩, rfl, Int.le_refl _, h1, h2, h3, TOk.empty _, rfl, by simp [NodeS.born, tel0], by simp [NodeS.born, tel0], emptyCells_len, fault_good.1 h0⟩
theorem newN_ok {id : Int} {B : BytS} {xs : List RuleS} (hid : id = 0 ∨ id = 1) (hB : BOk B) (h0 : (faultL xs).1 = 0) : BOk (newN id B xs).2.2 ∧ ((newN id B xs).1 = 0 → NOk 0 (newN id B xs).2.1) := by
  have hlt := openN_lt B.data 2
  refine ⟨nput_ok _ _ _ _ hB, fun h => ?_⟩
  have := nput_ep0 _ _ _ _ h
  exact born_ok hid (nput_num _ _ _ _ hlt.1) this.1 this.2 h0
end
end Go.Proofs.YtakdekkieobbaaaDoor

/-
  Lives of a node, in plain terms: what a node alone does of itself, with power.
-/
namespace Go.Proofs.YtakdekkieobbaaaDoor
open Go Ev
structure Pow (B : BytS) : Prop where
  bok : BOk B
  off : B.off = false
  left : B.left = -1
theorem write_pow : ∀ (s : List UInt8) (B : BytS) (p : Nat), B.off = false → B.left = -1 → (B.write p s).1 = true ∧ (B.write p s).2.off = false ∧ (B.write p s).2.left = -1
  | [], B, p, h1, h2 => ⟨rfl, h1, h2⟩
  | x :: r, B, p, h1, h2 => by
    rw [write_cons, if_neg (by rw [h1, h2]; decide)]
    exact write_pow r _ _ h1 (by rw [h2]; rfl)
theorem mark_pow (B : BytS) (p : Nat) (h1 : B.off = false) (h2 : B.left = -1) : (mark B p).1 = true ∧ (mark B p).2.off = false ∧ (mark B p).2.left = -1 := by
  unfold mark
  split
  · split
    · exact ⟨rfl, h1, h2⟩
    · exact write_pow _ _ _ h1 h2
  · exact ⟨rfl, h1, h2⟩
theorem cwrite_pow (B : BytS) (n e l : Nat) (h1 : B.off = false) (h2 : B.left = -1) : (cwrite B n e l).1 = true ∧ (cwrite B n e l).2.off = false ∧ (cwrite B n e l).2.left = -1 := by
  obtain ⟨a1, a2, a3⟩ := mark_pow B (n % 2 * 20 + 16) h1 h2
  obtain ⟨b1, b2, b3⟩ := write_pow (bodyB n e l) (mark B (n % 2 * 20 + 16)).2 (n % 2 * 20) a2 a3
  unfold cwrite
  rw [if_neg (by rw [h1]; decide), if_pos a1, if_pos b1]
  exact write_pow _ _ _ b2 b3
theorem put_pow {B : BytS} {C : CelS} {e l : Nat} (hP : Pow B) (hC : openS B.data = C) (hn : C.num + 1 < 4294967296) (he : C.ep ≤ e ∧ e ≤ 1073741824) (hl : C.li ≤ l ∧ l ≤ 1073741824) :
    (C.put B e l).1 = 0 ∧ Pow (C.put B e l).2.1 ∧ openS (C.put B e l).2.1.data = (C.put B e l).2.2 ∧ (C.put B e l).2.2 = ⟨C.num + 1, e, l, false⟩ := by
  have hd : C.dead = false := by rw [← hC]; exact openS_dead _
  obtain ⟨w1, w2, w3⟩ := cwrite_pow B (C.num + 1) e l hP.off hP.left
  have hk := hP.bok.cwrite (C.num + 1) e l
  have hlaw := cwrite_law (e := e) (l := l) hP.bok hP.off (by rw [hC]; exact hn) (by omega) (by omega)
  rw [hC] at hlaw
  have ho : openS (cwrite B (C.num + 1) e l).2.data = ⟨C.num + 1, e, l, false⟩ := by
    rcases hlaw with ⟨_, h, _⟩ | ⟨h, _⟩
    · exact h
    · rw [w1] at h
      cases h
  have hput : C.put B e l = (0, (cwrite B (C.num + 1) e l).2, ⟨C.num + 1, e, l, C.dead⟩) := by
    unfold CelS.put
    rw [if_neg (by rw [hd]; decide), if_neg (by omega), if_neg (by omega), if_neg (by omega)]
    simp only [Int.toNat_natCast]
    rw [if_pos w1]
  rw [hput, hd]
  exact ⟨rfl, ⟨hk, w2, w3⟩, ho, rfl⟩

/-! ### A table that is empty stays so -/
theorem exp_empty (now : Int) : expCells now 32 emptyCells = emptyCells := by
  unfold expCells
  rw [List.take_of_length_le (by rw [emptyCells_len]; exact Nat.le_refl _), List.drop_of_length_le (by rw [emptyCells_len]; exact Nat.le_refl _), List.append_nil]
  conv => rhs; rw [← List.map_id emptyCells]
  refine List.map_congr_left fun c hc => ?_
  simp only [emptyCells, List.mem_map] at hc
  obtain ⟨i, _, rfl⟩ := hc
  rfl
theorem flows_empty : flowsOf emptyCells = [] := by kernel_rfl
theorem next_pow {r : RoleS} (h0 : 0 ≤ r.epoch) (h1 : r.epoch + 2 ≤ 1073741824) : ∃ e : Nat, r.next = ((e : Int), 0) ∧ r.epoch < e ∧ (e : Int) ≤ r.epoch + 2 := by
  unfold RoleS.next
  dsimp only
  by_cases h : (r.epoch + 1).tmod 2 ≠ r.node
  · rw [if_pos h, if_neg (by omega)]
    exact ⟨(r.epoch + 1 + 1).toNat, by rw [Int.toNat_of_nonneg (by omega)], by omega, by omega⟩
  · rw [if_neg h, if_neg (by omega)]
    exact ⟨(r.epoch + 1).toNat, by rw [Int.toNat_of_nonneg (by omega)], by omega, by omega⟩
theorem notes_same (N : NodeS) (c : Bool) : (N.notes c).2.now = N.now ∧ (N.notes c).2.role = N.role ∧ (N.notes c).2.cell = N.cell ∧ (N.notes c).2.tab = N.tab ∧ (N.notes c).2.mir = N.mir ∧ (N.notes c).2.rules = N.rules := by
  unfold NodeS.notes
  dsimp only
  split <;> exact ⟨rfl, rfl, rfl, rfl, rfl, rfl⟩

/-- A node alone, k ticks old, that began with epoch ep and life li on the n-th record. -/
structure Lived (ep li n k : Nat) (N : NodeS) (B : BytS) : Prop where
  ok : NOk (34 * k) N
  pow : Pow B
  cell : openS B.data = N.cell
  now : N.now = k
  tab : N.tab.cells = emptyCells
  mir : N.mir.cells = emptyCells
  li : N.cell.li = li
  num : N.cell.num ≤ n + 1
  at_ : (k ≤ 9 ∧ N.role.active = false ∧ N.role.silence = k ∧ N.role.epoch = ep ∧ N.cell.ep = ep ∧ N.cell.num = n) ∨
    (9 < k ∧ N.role.active = true ∧ ∃ e : Nat, N.role.epoch = e ∧ ep < e ∧ e ≤ ep + 2 ∧ N.cell.ep = e)
theorem Lived.tick {ep li n k : Nat} {N : NodeS} {B : BytS} (h : Lived ep li n k N B) (hk : k ≤ 1000) (hep : ep ≤ 1000000) (hli : li ≤ 1000000) (hn : n ≤ 1000000) : (N.tick B).1 = 0 ∧ Lived ep li n (k + 1) (N.tick B).2.2.1 (N.tick B).2.2.2 := by
  have hok := (h.ok.tick (by omega) B).mono (n := 34 * (k + 1)) (by omega)
  have hnow := h.now
  have hst : N.step.2 = { N with now := N.now + 1, tab := N.tab.expire (N.now + 1), role := N.role.tick.2 } := rfl
  have htab : (N.tab.expire (N.now + 1)).cells = emptyCells := by
    show expCells (N.now + 1) 32 N.tab.cells = _
    rw [h.tab, exp_empty]
  -- no claim
  have plain : N.role.tick.1 = false → (((k + 1 ≤ 9 ∧ N.role.tick.2.active = false ∧ N.role.tick.2.silence = ((k + 1 : Nat) : Int) ∧ N.role.tick.2.epoch = ep ∧ N.cell.ep = ep ∧ N.cell.num = n) ∨ (9 < k + 1 ∧ N.role.tick.2.active = true ∧ ∃ e : Nat, N.role.tick.2.epoch = e ∧ ep < e ∧ e ≤ ep + 2 ∧ N.cell.ep = e))) → (N.tick B).1 = 0 ∧ Lived ep li n (k + 1) (N.tick B).2.2.1 (N.tick B).2.2.2 := by
    intro hr hat
    have ht : N.tick B = (0, (N.step.2.notes false).1, (N.step.2.notes false).2, B) := by
      unfold NodeS.tick
      rw [if_neg (by omega), if_neg (by rw [show N.step.1 = N.role.tick.1 from rfl, hr]; decide)]
    rw [ht] at hok ⊢
    obtain ⟨n1, n2, n3, n4, n5, _⟩ := notes_same N.step.2 false
    refine ⟨rfl, hok, h.pow, ?_, ?_, ?_, ?_, ?_, ?_, ?_⟩
    · exact h.cell.trans n3.symm
    · show (N.step.2.notes false).2.now = _
      rw [n1]
      show N.now + 1 = _
      omega
    · show (N.step.2.notes false).2.tab.cells = _
      rw [n4]
      exact htab
    · show (N.step.2.notes false).2.mir.cells = _
      rw [n5]
      exact h.mir
    · show (N.step.2.notes false).2.cell.li = _
      rw [n3]
      exact h.li
    · show (N.step.2.notes false).2.cell.num ≤ _
      rw [n3]
      exact h.num
    · show (_ ∧ (N.step.2.notes false).2.role.active = false ∧ (N.step.2.notes false).2.role.silence = _ ∧ (N.step.2.notes false).2.role.epoch = _ ∧ (N.step.2.notes false).2.cell.ep = _ ∧ (N.step.2.notes false).2.cell.num = _) ∨ (_ ∧ (N.step.2.notes false).2.role.active = true ∧ ∃ e : Nat, (N.step.2.notes false).2.role.epoch = _ ∧ _ ∧ _ ∧ (N.step.2.notes false).2.cell.ep = e)
      rw [n2, n3]
      exact hat
  rcases h.at_ with ⟨h9, ha, hsi, hre, hce, hcn⟩ | ⟨h9, ha, e, hre, he1, he2, hce⟩
  · have hrt : N.role.tick = (decide (N.role.silence + 1 > 9), { N.role with silence := N.role.silence + 1 }) := if_neg (by rw [ha]; decide)
    by_cases h8 : k + 1 ≤ 9
    · refine plain (by rw [hrt]; exact decide_eq_false (by omega)) (.inl ?_)
      rw [hrt]
      exact ⟨h8, ha, by show N.role.silence + 1 = _; omega, hre, hce, hcn⟩
    · have hk9 : k = 9 := by omega
      have hs1 : N.step.1 = true := by
        show N.role.tick.1 = true
        rw [hrt]
        exact decide_eq_true (by omega)
      have hrole : N.step.2.role = { N.role with silence := N.role.silence + 1 } := by
        show N.role.tick.2 = _
        rw [hrt]
      obtain ⟨e, hnx, he1, he2⟩ := next_pow (r := N.step.2.role) (by rw [hrole]; show 0 ≤ N.role.epoch; omega) (by rw [hrole]; show N.role.epoch + 2 ≤ _; omega)
      have hree : N.step.2.role.epoch = ep := by rw [hrole]; exact hre
      have hcst : N.step.2.cell = N.cell := rfl
      obtain ⟨p1, p2, p3, p4⟩ := put_pow (e := e) (l := N.cell.li) h.pow h.cell (by omega) (by omega) (by have := h.li; omega)
      have hcl : N.step.2.claim B = ((true, 0), { N.step.2 with cell := (N.cell.put B e N.cell.li).2.2, role := (N.step.2.role.claim e).2, tab := N.step.2.tab }, (N.cell.put B e N.cell.li).2.1) := by
        unfold NodeS.claim
        rw [hnx]
        dsimp only
        rw [if_neg (by simp), if_neg (by rw [hcst]; exact fun h => h p1)]
        rw [show flowsOf N.step.2.mir.cells = [] by rw [show N.step.2.mir.cells = N.mir.cells from rfl, h.mir, flows_empty]]
        rfl
      have hact : N.step.2.role.active = false := by rw [hrole]; exact ha
      have hrc : N.step.2.role.claim e = (0, { N.step.2.role with active := true, epoch := e }) := by
        have := RoleS.claim_next (r := N.step.2.role) hact (by rw [hnx])
        rw [hnx] at this
        exact this
      have ht : N.tick B = (0, ((N.step.2.claim B).2.1.notes true).1, ((N.step.2.claim B).2.1.notes true).2, (N.step.2.claim B).2.2) := by
        unfold NodeS.tick
        rw [if_neg (by omega), if_pos hs1, if_neg (by rw [hcl]; simp)]
        rw [show (N.step.2.claim B).1.1 = true by rw [hcl]]
      rw [ht] at hok ⊢
      obtain ⟨n1, n2, n3, n4, n5, _⟩ := notes_same (N.step.2.claim B).2.1 true
      generalize hM : ((N.step.2.claim B).2.1.notes true).2 = M at hok n1 n2 n3 n4 n5 ⊢
      rw [hcl] at n1 n2 n3 n4 n5 ⊢
      dsimp only at n1 n2 n3 n4 n5 ⊢
      rw [hrc] at n2
      rw [p4] at n3
      refine ⟨rfl, hok, p2, ?_, ?_, ?_, ?_, ?_, ?_, .inr ⟨by omega, by rw [n2], e, by rw [n2], by omega, by omega, by rw [n3]⟩⟩
      · rw [p3, p4, n3]
      · rw [n1]
        show N.now + 1 = _
        omega
      · rw [n4]
        exact htab
      · rw [n5]
        exact h.mir
      · rw [n3]
        exact h.li
      · rw [n3]
        show N.cell.num + 1 ≤ n + 1
        omega
  · have hrt : N.role.tick = (false, N.role) := if_pos ha
    refine plain (by rw [hrt]) (.inr ?_)
    rw [hrt]
    exact ⟨by omega, ha, e, hre, he1, he2, hce⟩
/-- A node begins anew on the bytes of another. -/
theorem Lived.born {id : Int} {B : BytS} {rules : List RuleS} (hid : id = 0 ∨ id = 1) (hg : (faultL rules).1 = 0) (hP : Pow B) (hn : (openS B.data).num ≤ 1000000) (he : (openS B.data).ep ≤ 1000000) (hl : (openS B.data).li ≤ 1000000) :
    (newN id B rules).1 = 0 ∧ Lived (openS B.data).ep ((openS B.data).li + 1) ((openS B.data).num + 1) 0 (newN id B rules).2.1 (newN id B rules).2.2 := by
  obtain ⟨p1, p2, p3, p4⟩ := put_pow (B := B) (C := openS B.data) (e := (openS B.data).ep) (l := (openS B.data).li + 1) hP rfl (by omega) (by omega) (by omega)
  have h1 := (newN_ok (id := id) (xs := rules) hid hP.bok hg).2 p1
  refine ⟨p1, h1, p2, p3, rfl, rfl, rfl, ?_, ?_, .inl ⟨by decide, rfl, rfl, ?_, ?_, ?_⟩⟩
  · show ((openS B.data).put B (openS B.data).ep ((openS B.data).li + 1)).2.2.li = _
    rw [show (((openS B.data).li : Int) + 1) = (((openS B.data).li + 1 : Nat) : Int) from rfl, p4]
  · show ((openS B.data).put B (openS B.data).ep ((openS B.data).li + 1)).2.2.num ≤ _
    rw [show (((openS B.data).li : Int) + 1) = (((openS B.data).li + 1 : Nat) : Int) from rfl, p4]
    exact Nat.le_succ _
  · show ((((openS B.data).put B (openS B.data).ep ((openS B.data).li + 1)).2.2.ep : Nat) : Int) = _
    rw [show (((openS B.data).li : Int) + 1) = (((openS B.data).li + 1 : Nat) : Int) from rfl, p4]
  · show ((openS B.data).put B (openS B.data).ep ((openS B.data).li + 1)).2.2.ep = _
    rw [show (((openS B.data).li : Int) + 1) = (((openS B.data).li + 1 : Nat) : Int) from rfl, p4]
  · show ((openS B.data).put B (openS B.data).ep ((openS B.data).li + 1)).2.2.num = _
    rw [show (((openS B.data).li : Int) + 1) = (((openS B.data).li + 1 : Nat) : Int) from rfl, p4]
end Go.Proofs.YtakdekkieobbaaaDoor

/-
  A flow of a node, and its time, in plain terms.
-/
namespace Go.Proofs.YtakdekkieobbaaaDoor
open Go Ev
def allowAll : RuleS := ⟨true, true, 0, 1, 65535⟩
def At0 (N : NodeS) (g : FlowS) : Prop := ∃ c, N.tab.cells[0]? = some c ∧ c.f = g
structure Timed (m : Nat) (N : NodeS) (B : BytS) (g : FlowS) : Prop where
  ok : NOk m N
  bok : BOk B
  act : N.role.active = true
  at0 : At0 N g
  rul : N.rules = [allowAll]
theorem Timed.tick {m : Nat} {N : NodeS} {B : BytS} {g : FlowS} (h : Timed m N B g) (hm : m ≤ 50000000) (hn : N.now ≤ 1000000) :
    (N.tick B).1 = 0 ∧ (N.tick B).2.2.1.now = N.now + 1 ∧ Timed (m + 34) (N.tick B).2.2.1 (N.tick B).2.2.2 (if g.proto ≠ 0 ∧ g.til ≤ N.now + 1 then noFlow else g) := by
  have hok := h.ok.tick hm B
  have hrt : N.role.tick = (false, N.role) := if_pos h.act
  have ht : N.tick B = (0, (N.step.2.notes false).1, (N.step.2.notes false).2, B) := by
    unfold NodeS.tick
    rw [if_neg (by omega), if_neg (by rw [show N.step.1 = N.role.tick.1 from rfl, hrt]; simp)]
  obtain ⟨n1, n2, n3, n4, n5, n6⟩ := notes_same N.step.2 false
  rw [ht] at hok ⊢
  refine ⟨rfl, n1, hok, h.bok, ?_, ?_, ?_⟩
  · show (N.step.2.notes false).2.role.active = true
    rw [n2]
    show N.role.tick.2.active = true
    rw [hrt]
    exact h.act
  · obtain ⟨c, hc, hcg⟩ := h.at0
    have hl := h.ok.tab.len
    refine ⟨dropC (N.now + 1) c, ?_, ?_⟩
    · show (N.step.2.notes false).2.tab.cells[0]? = _
      rw [n4]
      show (expCells (N.now + 1) 32 N.tab.cells)[0]? = _
      unfold expCells
      rw [List.take_of_length_le (by omega), List.drop_of_length_le (by omega), List.append_nil, List.getElem?_map, hc]
      rfl
    · unfold dropC expC
      rw [hcg]
      by_cases hg : g.proto ≠ 0 ∧ g.til ≤ N.now + 1
      · rw [if_pos hg, decide_eq_true hg.1, decide_eq_true hg.2]
        rfl
      · rw [if_neg hg, if_neg (by simpa using hg)]
        exact hcg
  · show (N.step.2.notes false).2.rules = _
    rw [n6]
    exact h.rul
def Fits (p : PktS) (g : FlowS) : Prop := g.proto = p.proto ∧ g.ia = p.sa ∧ g.ip = p.sp ∧ g.fa = p.da ∧ g.fp = p.dp
theorem find_at0 {N : NodeS} {g : FlowS} {p : PktS} (h : At0 N g) (hf : Fits p g) (hp : g.proto ≠ 0) : N.tab.find p.proto p.sa p.sp p.da p.dp = 0 := by
  obtain ⟨c, hc, rfl⟩ := h
  obtain ⟨f1, f2, f3, f4, f5⟩ := hf
  unfold MirS.find
  match hcs : N.tab.cells, hc with
  | x :: xs, hc =>
    obtain rfl : x = c := by simpa using hc
    unfold idxI
    rw [show there (fitF p.proto p.sa p.sp p.da p.dp) x = true by
      unfold there fitF
      rw [decide_eq_true hp, decide_eq_true f1, decide_eq_true ⟨f2, f3⟩, decide_eq_true ⟨f4, f5⟩]
      rfl]
    rfl
theorem Timed.inside {m : Nat} {N : NodeS} {B : BytS} {g : FlowS} {p : PktS} (h : Timed m N B g) (hp : p.err = 0) (hf : Fits p g) (hg : g.proto ≠ 0) (hn : nextS g.proto g.state p.flags true = (g.state, false)) :
    (N.inside p).1 = 0 ∧ (N.inside p).2.1 = ⟨p.proto, 1, g.port, p.da, p.dp, p.flags⟩ ∧ (N.inside p).2.2.now = N.now ∧ Timed (m + 1) (N.inside p).2.2 B { g with til := N.now + timeS g.proto g.state } := by
  have hfd := find_at0 h.at0 hf hg
  obtain ⟨c, hc, hcg⟩ := h.at0
  have hfa : flowAt N.tab 0 = g := by
    unfold flowAt
    rw [show (0 : Int).toNat = 0 from rfl, hc]
    exact hcg
  have hfe : N.tab.flowErr 0 = 0 := by
    unfold MirS.flowErr
    rw [if_neg (by decide), show (0 : Int).toNat = 0 from rfl, hc]
    exact if_neg (by rw [hcg]; exact hg)
  have hpass : N.pass 0 p.flags true = { N with tab := ⟨N.tab.life, setF N.tab.cells 0 { g with til := N.now + timeS g.proto g.state }⟩ } := by
    unfold NodeS.pass
    rw [hfa, hn]
    dsimp only
    unfold MirS.setS
    rw [if_neg (by rw [hfe]; decide), hfa]
    rfl
  have hi : N.inside p = (0, ⟨p.proto, 1, g.port, p.da, p.dp, p.flags⟩, N.pass 0 p.flags true) := by
    unfold NodeS.inside
    rw [if_neg (fun h => h hp), if_neg (by rw [h.act]; decide), hfd, if_pos (by decide), hfa]
  have hok := h.ok.pass 0 p.flags true
  rw [hi]
  rw [hpass] at hok ⊢
  refine ⟨rfl, rfl, rfl, hok, h.bok, h.act, ⟨⟨c.slot, c.ver + 1, { g with til := N.now + timeS g.proto g.state }⟩, ?_, rfl⟩, h.rul⟩
  show (setF N.tab.cells 0 _)[0]? = _
  rw [setF_at hc]
  rw [List.getElem?_set_self (List.getElem?_eq_some_iff.1 hc).1]
theorem inside_first {m : Nat} {N : NodeS} {B : BytS} {p : PktS} {s : Int} (hO : NOk m N) (hB : BOk B) (ha : N.role.active = true) (ht : N.tab.cells = emptyCells) (hr : N.rules = [allowAll]) (hp : p.err = 0) (hs : beginS p.proto p.flags = (s, 0)) :
    (N.inside p).1 = 0 ∧ (N.inside p).2.1 = ⟨p.proto, 1, N.tab.life, p.da, p.dp, p.flags⟩ ∧ (N.inside p).2.2.now = N.now ∧ Timed (m + 1) (N.inside p).2.2 B ⟨p.proto, p.sa, p.sp, p.da, p.dp, N.tab.life, s, N.now + timeS p.proto s⟩ := by
  have hbad : p.bad = false := by
    unfold PktS.err at hp
    split at hp
    · exact absurd hp (by decide)
    · rename_i h
      exact Bool.eq_false_iff.2 h
  have hport : 1 ≤ p.dp ∧ p.dp ≤ 65535 := by
    unfold PktS.bad at hbad
    have := of_decide_eq_false hbad
    have h3 : endB p.da p.dp ≠ false := fun h => this (.inr (.inr (.inl h)))
    unfold endB at h3
    have h4 := of_decide_eq_true (show decide (0 ≤ p.da ∧ p.da ≤ 1048576 ∧ 1 ≤ p.dp ∧ p.dp ≤ 65535) = true by simpa using h3)
    omega
  have hadm : admitsL p.proto p.dp true N.rules = true := by
    rw [hr]
    unfold admitsL
    rw [show allowAll.fits p.proto p.dp true = true by
      unfold RuleS.fits
      exact decide_eq_true ⟨rfl, .inl rfl, hport.1, hport.2⟩]
    rfl
  have hfind : N.tab.find p.proto p.sa p.sp p.da p.dp = -1 := by
    unfold MirS.find
    rw [ht]
    rfl
  have hback : ∀ q, N.tab.back p.proto q p.da p.dp = -1 := fun q => by
    unfold MirS.back
    rw [ht]
    rfl
  have hadd : N.tab.add p.proto p.sa p.sp p.da p.dp s (N.now + timeS p.proto s) = ((0, 0), ⟨N.tab.life, setF N.tab.cells 0 ⟨p.proto, p.sa, p.sp, p.da, p.dp, N.tab.life, s, N.now + timeS p.proto s⟩⟩) := by
    unfold MirS.add
    rw [hfind, if_neg (by decide)]
    rw [show portF N.tab p.proto p.da p.dp 24 0 = some 0 by unfold portF; rw [hback]; rfl]
    dsimp only
    unfold MirS.lay
    rw [show idxI proto0 N.tab.cells 0 = 0 by rw [ht]; rfl, if_neg (by decide)]
    rw [show (N.tab.life + ((0 : Nat) : Int)) = N.tab.life by omega]
    rfl
  have hbeg : N.begin p = ((0, 0), { N with tab := ⟨N.tab.life, setF N.tab.cells 0 ⟨p.proto, p.sa, p.sp, p.da, p.dp, N.tab.life, s, N.now + timeS p.proto s⟩⟩ }) := by
    unfold NodeS.begin
    rw [hadm, if_neg (by decide), hs, if_neg (by simp)]
    dsimp only
    rw [hadd]
  have hc0 : N.tab.cells[0]? = some ⟨0, 0, noFlow⟩ := by rw [ht]; rfl
  have hat : ∀ f, (setF N.tab.cells 0 f)[0]? = some ⟨0, 0 + 1, f⟩ := fun f => by
    rw [setF_at hc0, List.getElem?_set_self (List.getElem?_eq_some_iff.1 hc0).1]
  have hok := hO.begin p
  have hi : N.inside p = (0, ⟨p.proto, 1, N.tab.life, p.da, p.dp, p.flags⟩, (N.begin p).2) := by
    unfold NodeS.inside
    rw [if_neg (fun h => h hp), if_neg (by rw [ha]; decide), hfind, if_neg (by decide), if_neg (by rw [hbeg]; simp)]
    rw [show (flowAt (N.begin p).2.tab (N.begin p).1.1).port = N.tab.life by
      rw [hbeg]
      unfold flowAt
      dsimp only
      rw [show (0 : Int).toNat = 0 from rfl, hat]]
  rw [hi]
  rw [hbeg] at hok ⊢
  exact ⟨rfl, rfl, rfl, hok, hB, ha, ⟨_, hat _, rfl⟩, hr⟩
theorem tclaim_rules (N : NodeS) (B : BytS) : (N.claim B).2.1.rules = N.rules := by
  unfold NodeS.claim
  repeat' split
  all_goals rfl
theorem ttick_rules (N : NodeS) (B : BytS) : (N.tick B).2.2.1.rules = N.rules := by
  unfold NodeS.tick
  split
  · rfl
  split
  · split
    · exact tclaim_rules _ _
    · exact (notes_same _ (N.step.2.claim B).1.1).2.2.2.2.2.trans (tclaim_rules _ _)
  · exact (notes_same _ false).2.2.2.2.2
def tpkt_pr (p : PktS) : List Pr := [.int p.proto, .int p.sa, .int p.sp, .int p.da, .int p.dp, .int p.flags]
theorem nePkt1 {p : PktS} {k : Value → Prop} (hk : k (.bool false)) :
    PureC Tryd.prog (do eqGuard .neq 28 (.tmp 0) (.tmp 0) (.agg (encPkt p).toArray) (.agg (encPkt p).toArray); Go.binOp .neq 28 (.agg (encPkt p).toArray) (.agg (encPkt p).toArray)) k :=
  neS (a := tpkt_pr p) (b := tpkt_pr p) (ks := [.int, .int, .int, .int, .int, .int]) (by kernel_rfl) (by kernel_rfl) (by kernel_rfl) rfl rfl (by simpa using hk)
theorem Timed.mono {m n : Nat} {N : NodeS} {B : BytS} {g : FlowS} (h : Timed m N B g) (hn : m ≤ n) : Timed n N B g := ⟨h.ok.mono hn, h.bok, h.act, h.at0, h.rul⟩
theorem arg_end {W : World} {v : Value} (h : ArgOk Tryd.prog W 26 v) : ∃ a p : Int, v = .agg #[.int .i64 a, .int .i64 p] := by
  obtain ⟨ps, rfl, hk, hok⟩ := arg_flat Tryd.underlying26 (by kernel_rfl : flatK Tryd.prog 10 26 = some [.int, .int]) (by kernel_rfl) h
  obtain ⟨p1, r, rfl, g1, hk⟩ := kinds_cons hk
  obtain ⟨p2, r, rfl, g2, hk⟩ := kinds_cons hk
  obtain rfl := kinds_nil hk
  obtain ⟨n1, rfl⟩ := k_int g1
  obtain ⟨n2, rfl⟩ := k_int g2
  exact ⟨n1, n2, rfl⟩
end Go.Proofs.YtakdekkieobbaaaDoor

/-
  A closed fact: a node begins, and claims in time.
-/
namespace Go.Proofs.YtakdekkieobbaaaDoor
open Go Ev
section
variable {w : World}
/-! ### A closed fact -/
def wN : Nat → NodeS × BytS
  | 0 => (newN 1 by0 []).2
  | k + 1 => ((wN k).1.tick (wN k).2).2.2
theorem wN_law : (newN 1 by0 []).1 = 0 ∧ (wN 0).1.cell.li = 1 ∧ (wN 0).1.role.active = false ∧ (∀ k, k < 10 → ((wN k).1.tick (wN k).2).1 = 0) ∧ (wN 10).1.role.active = true ∧ (wN 10).1.role.epoch = 1 ∧ (wN 10).1.now = 10 := by decide +kernel
theorem by0_bok : BOk by0 := ⟨by simp [by0], by decide, by decide⟩
theorem wN_ok : ∀ k, k ≤ 10 → NOk (34 * k) (wN k).1 ∧ BOk (wN k).2
  | 0, _ => ⟨(newN_ok (.inr rfl) by0_bok rfl).2 wN_law.1, (newN_ok (.inr rfl) by0_bok rfl).1⟩
  | k + 1, h => by
    obtain ⟨h1, h2⟩ := wN_ok k (by omega)
    exact ⟨(h1.tick (by omega) _).mono (by omega), NodeS.tick_bok h2⟩
theorem slc_nil {α : Type} (w : World) (sz : Nat) (enc : α → List Value) (G : α → Prop) (a : Option Addr) : Slc w sz enc G a 0 [] := ⟨rfl, by decide, fun k x hk => by simp at hk, fun x hx => by simp at hx⟩
theorem wakes_ok {E : Nat → Addr} {q : Nat} (w : World) (hE : Errs w E q tickErrs) (hq : q ≤ w.heap.size) : CallC Tryd.prog 25 #[] w fun v w' => v = .bool true ∧ Ext No w w' := by
  obtain ⟨h0, h1, h2, h3, h4, h5, h6⟩ := wN_law
  refine fn_intro tabOk Tryd.func25 (by kernel_rfl) rfl Tryd.ntmps25 (Nat.le_of_ble_eq_true rfl) ?_
  have hS := St.start w No
  (conv => whnf)
  refine (newBytes_ok _).mono ?_
  rintro v w' ⟨b, rfl, hb, hx', hB⟩
  replace hS := hS.made hx' (blk_local _ _ _) hB (by simp [blk]; exact ⟨hb, hB.lt⟩)
  have fb := hS.fresh 0 rfl
  clear hx' hB hb
  (conv => whnf)
  refine (nnew_ok (G := fun _ => True) 1 (.inr rfl) (slc_nil _ 5 encRule _ none) (by decide) rfl (fun h => absurd h (by decide)) (hS.blk 0 rfl) by0_bok rfl (hE.ext hS.ext fun _ h => h.elim) (Nat.le_trans hq fb)).mono ?_
  rintro v w' (⟨_, A, hAb, rfl, ht⟩ | ⟨hne, _⟩)
  case inr => exact absurd h0 hne
  replace hS := hS.turned ht
  clear ht
  replace hS : St w No w' (nodeB A (wN 0).1 (wN 0).2) := hS
  (conv => whnf)
  refine (nlife_ok hS.has.left).mono ?_
  rintro v w' ⟨rfl, hx'⟩
  replace hS := hS.no hx'
  clear hx'
  rw [h1]
  (conv => whnf)
  refine hS.ld 0 rfl rfl ?_
  (conv => whnf)
  refine (role_active (hS.blk 1 rfl)).mono ?_
  rintro v w' ⟨rfl, rfl⟩
  rw [h2]
  (conv => whnf)
  refine loopR tabOk (fun σ w' q => ∃ k : Nat, σ = [(4, .int .i64 k), (2, .pointer (some ⟨A.n, 0, none⟩))] ∧ q = 10 - k ∧ k ≤ 10 ∧ St w No w' (nodeB A (wN k).1 (wN k).2))
    (σ' := [(4, .int .i64 ((0 : Nat) : Int)), (2, .pointer (some ⟨A.n, 0, none⟩))]) (n := 10) ⟨rfl, rfl, trivial⟩ ⟨0, rfl, rfl, Nat.zero_le _, hS⟩ ?_
  clear hS
  rintro _ w1 q' ⟨k, rfl, rfl, hk, hS⟩
  obtain ⟨hO, hB⟩ := wN_ok k hk
  (conv => whnf)
  refine brD (fun h7 => ?_) (fun h7 => ?_)
  · (conv => whnf)
    refine (ntick_ok hS.has hO hB (by omega) (hE.ext hS.ext fun _ h => h.elim) (hS.high (fun _ h => h.elim) hq)).mono ?_
    rintro v w' ⟨a, c, x, y, rfl, ht⟩
    replace hS := (hS.turned ht).keep 8
    replace hS : St w No w' (nodeB A (wN (k + 1)).1 (wN (k + 1)).2) := hS
    rw [h3 k (by omega)]
    (conv => whnf)
    refine RngC.mk (by omega) (by omega) ?_
    (conv => whnf)
    refine LoopE.mk ⟨_, [(4, .int .i64 ((k + 1 : Nat) : Int)), (2, _)], ?_, ⟨rfl, rfl, trivial⟩, ⟨k + 1, rfl, rfl, by omega, hS⟩⟩
    omega
  · obtain rfl : k = 10 := by omega
    (conv => whnf)
    refine hS.ld 0 rfl rfl ?_
    (conv => whnf)
    refine (role_active (hS.blk 1 rfl)).mono ?_
    rintro v w' ⟨rfl, rfl⟩
    rw [h4]
    (conv => whnf)
    refine hS.ld 0 rfl rfl ?_
    (conv => whnf)
    refine (role_epoch (hS.blk 1 rfl)).mono ?_
    rintro v w' ⟨rfl, rfl⟩
    rw [h5]
    (conv => whnf)
    refine (nnow_ok hS.has.left).mono ?_
    rintro v w' ⟨rfl, rfl⟩
    rw [h6]
    repeat' ((conv => whnf); first | refine RetC.mk ?_ | refine NzC.mk (by decide) ?_ | refine RngC.mk (by omega) (by omega) ?_ | refine IdxC.mk (by omega) (by omega) ?_ | refine brD (fun _ => ?_) (fun _ => ?_) | refine brND (fun _ => ?_) (fun _ => ?_) | refine brN (fun _ => ?_) (fun _ => ?_) | refine brI (fun _ => ?_) (fun _ => ?_))
    exact ⟨rfl, hS.ext⟩

end
end Go.Proofs.YtakdekkieobbaaaDoor

/-
  NodeTimes returns true whatever its arguments.
-/
namespace Go.Proofs.YtakdekkieobbaaaDoor
open Go Ev
theorem pk_one {p : PktS} (h : p.err = 0) (h2 : ¬ p.proto = 2) : p.proto = 1 := by
  unfold PktS.err at h
  split at h
  · exact absurd h (by decide)
  · rename_i hb
    unfold PktS.bad at hb
    have := of_decide_eq_false (Bool.eq_false_iff.2 hb)
    omega
theorem nodeTimes_ok {E : Nat → Addr} (W : World) (hE : Errs W E W.heap.size insErrs) (nid proto ia ip fa fp : Int) (a0 : Option Addr) (n0 c0 : Nat) (l : List Int) (hx : Slc W 1 encI (fun _ => True) a0 n0 l) :
    CallC Tryd.prog 8 #[.int .i64 nid, .int .i64 proto, .agg #[.int .i64 ia, .int .i64 ip], .agg #[.int .i64 fa, .int .i64 fp], .slice a0 n0 c0] W fun v w' => v = .bool true ∧ Ext No W w' := by
  have hm0 := hx.max
  have hqW : ∀ b, No b → W.heap.size ≤ b := fun _ h => h.elim
  have h0 : openS by0.data = ⟨0, 0, 0, false⟩ := by decide +kernel
  refine fn_intro tabOk Tryd.func8 (by kernel_rfl) rfl Tryd.ntmps8 (Nat.le_of_ble_eq_true rfl) ?_
  have hS := St.start W No
  (conv => whnf)
  refine hS.new (fun bi w' hbi hS => ?_)
  (conv => whnf)
  refine hS.new (fun bf w' hbf hS => ?_)
  replace hS : St W No w' [blk bi 26 [.int .i64 ia, .int .i64 ip], blk bf 26 [.int .i64 fa, .int .i64 fp]] := hS
  (conv => whnf)
  refine (wakes_ok _ ((hE.ext hS.ext fun _ h => h.elim).sub rfl) hS.ext.size).mono ?_
  rintro v w' ⟨rfl, hx'⟩
  replace hS := hS.no hx'
  clear hx'
  (conv => whnf)
  refine brD (fun h1 => ?_) (fun h1 => ?_)
  · repeat' ((conv => whnf); first | refine RetC.mk ?_ | refine NzC.mk (by decide) ?_ | refine RngC.mk (by omega) (by omega) ?_ | refine IdxC.mk (by omega) (by omega) ?_ | refine brD (fun _ => ?_) (fun _ => ?_) | refine brND (fun _ => ?_) (fun _ => ?_) | refine brN (fun _ => ?_) (fun _ => ?_) | refine brI (fun _ => ?_) (fun _ => ?_))
    exact ⟨rfl, hS.ext⟩
  (conv => whnf)
  refine brD (fun h2 => ?_) (fun h2 => ?_)
  · repeat' ((conv => whnf); first | refine RetC.mk ?_ | refine NzC.mk (by decide) ?_ | refine RngC.mk (by omega) (by omega) ?_ | refine IdxC.mk (by omega) (by omega) ?_ | refine brD (fun _ => ?_) (fun _ => ?_) | refine brND (fun _ => ?_) (fun _ => ?_) | refine brN (fun _ => ?_) (fun _ => ?_) | refine brI (fun _ => ?_) (fun _ => ?_))
    exact ⟨rfl, hS.ext⟩
  have hid : nid = 0 ∨ nid = 1 := by omega
  (conv => whnf)
  refine brD (fun h3 => ?_) (fun h3 => ?_)
  · repeat' ((conv => whnf); first | refine RetC.mk ?_ | refine NzC.mk (by decide) ?_ | refine RngC.mk (by omega) (by omega) ?_ | refine IdxC.mk (by omega) (by omega) ?_ | refine brD (fun _ => ?_) (fun _ => ?_) | refine brND (fun _ => ?_) (fun _ => ?_) | refine brN (fun _ => ?_) (fun _ => ?_) | refine brI (fun _ => ?_) (fun _ => ?_))
    exact ⟨rfl, hS.ext⟩
  (conv => whnf)
  refine hS.laX 0 rfl rfl ?_
  (conv => whnf)
  refine hS.laX 1 rfl rfl ?_
  (conv => whnf)
  refine hS.new (fun bp w' hbp hS => ?_)
  (conv => whnf)
  refine hS.st 2 rfl (Nat.le_of_ble_eq_true rfl) rfl (fun w' hS => ?_)
  replace hS : St W No w' [blk bi 26 [.int .i64 ia, .int .i64 ip], blk bf 26 [.int .i64 fa, .int .i64 fp], blk bp 28 (encPkt ⟨proto, ia, ip, fa, fp, 0⟩)] := hS
  (conv => whnf)
  refine brD (fun h4 => ?_) (fun h4 => ?_)
  · (conv => whnf)
    refine hS.st 2 rfl (Nat.le_of_ble_eq_true rfl) rfl (fun w' hS => ?_)
    replace hS : St W No w' [blk bi 26 [.int .i64 ia, .int .i64 ip], blk bf 26 [.int .i64 fa, .int .i64 fp], blk bp 28 (encPkt ⟨proto, ia, ip, fa, fp, 1⟩)] := hS
    (conv => whnf)
    refine hS.laX 2 rfl rfl ?_
    (conv => whnf)
    refine (perror_ok (⟨proto, ia, ip, fa, fp, 1⟩ : PktS) _).mono ?_
    rintro v w' ⟨rfl, hx'⟩
    replace hS := hS.no hx'
    clear hx'
    (conv => whnf)
    refine brD (fun h5 => ?_) (fun h5 => ?_)
    · repeat' ((conv => whnf); first | refine RetC.mk ?_ | refine NzC.mk (by decide) ?_ | refine RngC.mk (by omega) (by omega) ?_ | refine IdxC.mk (by omega) (by omega) ?_ | refine brD (fun _ => ?_) (fun _ => ?_) | refine brND (fun _ => ?_) (fun _ => ?_) | refine brN (fun _ => ?_) (fun _ => ?_) | refine brI (fun _ => ?_) (fun _ => ?_))
      exact ⟨rfl, hS.ext⟩
    have herr : (⟨proto, ia, ip, fa, fp, 1⟩ : PktS).err = 0 := by omega
    have hbs : beginS (⟨proto, ia, ip, fa, fp, 1⟩ : PktS).proto (⟨proto, ia, ip, fa, fp, 1⟩ : PktS).flags = ((1), 0) := by show beginS proto 1 = (1, 0); rw [h4]; rfl
    have hts : timeS (⟨proto, ia, ip, fa, fp, 1⟩ : PktS).proto (1) = (10) := by show timeS proto 1 = 10; rw [h4]; rfl
    have hnx : nextS (⟨proto, ia, ip, fa, fp, 1⟩ : PktS).proto (1) (⟨proto, ia, ip, fa, fp, 1⟩ : PktS).flags true = ((1), false) := by show nextS proto 1 1 true = (1, false); rw [h4]; kernel_rfl
    have hpr : (⟨proto, ia, ip, fa, fp, 1⟩ : PktS).proto ≠ 0 := by show proto ≠ 0; omega
    have hPp : (⟨proto, ia, ip, fa, fp, 1⟩ : PktS).proto = proto := rfl
    generalize (⟨proto, ia, ip, fa, fp, 1⟩ : PktS) = P at hS herr hbs hts hnx hpr hPp ⊢
    clear h5
    (conv => whnf)
    refine (newBytes_ok _).mono ?_
    rintro v w' ⟨b, rfl, hb, hx', hB⟩
    replace hS := hS.made hx' (blk_local _ _ _) hB (by simp [blk]; exact ⟨hb, hB.lt⟩)
    have fb := hS.fresh 3 rfl
    clear hx' hB hb
    (conv => whnf)
    refine hS.litX (cs := encRule allowAll) Tryd.underlying22 (sz := 5) (by kernel_rfl) (z := .agg (encRule noRule).toArray) (by kernel_rfl) rfl rfl (by rfl) (fun b2 w' hb2 hx1 hS => ?_)
    clear hx1
    have hne := hS.ne 4 3 rfl rfl (by decide)
    have hslc : Slc w' 5 encRule (fun _ => True) (some ⟨b2, 0, none⟩) 1 [allowAll] := Slc.of_blk codRule (hS.blk 4 rfl) rfl (by simp) (fun _ _ => trivial) rfl
    obtain ⟨p1, p2⟩ := Lived.born (id := nid) (B := by0) (rules := [allowAll]) hid rfl ⟨by0_bok, rfl, rfl⟩ (by rw [h0]; decide) (by rw [h0]; decide) (by rw [h0]; decide)
    (conv => whnf)
    refine (nnew_ok nid hid hslc (by decide) rfl (fun _ b0 o0 e => by cases e; exact hne) (hS.blk 3 rfl) by0_bok rfl ((hE.ext hS.ext fun _ h => h.elim).sub rfl) fb).mono ?_
    rintro v w' (⟨_, A, hAb, rfl, ht⟩ | ⟨hn2, _⟩)
    case inr => exact absurd p1 hn2
    have hs1 := hS.sel [3, 0, 1, 2] (by decide)
    replace hS := St.call (H := [blk b 103 (encBy by0)]) (B := [blk bi 26 [.int .i64 ia, .int .i64 ip], blk bf 26 [.int .i64 fa, .int .i64 fp], blk bp 28 (encPkt P)]) hs1 ht
    clear ht hs1 hslc hne
    rw [h0] at p2
    have hru : (newN nid by0 [allowAll]).2.1.rules = [allowAll] := rfl
    generalize (newN nid by0 [allowAll]).2 = T at hS p2 hru
    obtain ⟨N, B⟩ := T
    dsimp only at hS p2 hru
    (conv => whnf)
    refine loopR tabOk (fun σ w' q => ∃ (k : Nat) (N : NodeS) (B : BytS), σ = [(17, .int .i64 k), (15, .pointer (some ⟨A.n, 0, none⟩)), (13, .int .i64 (10)), (12, .pointer (some ⟨bp, 0, none⟩)), (4, .slice a0 n0 c0), (1, .int .i64 proto)] ∧ q = 10 - k ∧ k ≤ 10 ∧ Lived 0 1 1 k N B ∧ N.rules = [allowAll] ∧ St W No w' (nodeB A N B ++ [blk bi 26 [.int .i64 ia, .int .i64 ip], blk bf 26 [.int .i64 fa, .int .i64 fp], blk bp 28 (encPkt P)]))
      (σ' := [(17, .int .i64 ((0 : Nat) : Int)), (15, .pointer (some ⟨A.n, 0, none⟩)), (13, .int .i64 (10)), (12, .pointer (some ⟨bp, 0, none⟩)), (4, .slice a0 n0 c0), (1, .int .i64 proto)]) (n := 10) ⟨rfl, rfl, rfl, rfl, rfl, rfl, trivial⟩ ⟨0, N, B, rfl, rfl, Nat.zero_le _, p2, hru, hS⟩ ?_
    clear hS p2 hru
    clear N B
    rintro _ w6 q ⟨k, N, B, rfl, rfl, hk, p2, hru, hS⟩
    (conv => whnf)
    refine brD (fun h6 => ?_) (fun h6 => ?_)
    · (conv => whnf)
      refine (ntick_ok hS.has.left p2.ok p2.pow.bok (by omega) ((hE.ext hS.ext hqW).sub rfl) (fun d hd => hS.high hqW (Nat.le_refl _) d (inF_app.2 (.inl hd)))).mono ?_
      rintro v w' ⟨a2, c2, x2, y2, rfl, ht⟩
      replace hS := (St.call hS ht).sel [0, 1, 2, 3, 4, 5, 6, 7, 10, 11, 12] (by decide)
      obtain ⟨t1, t2⟩ := p2.tick (by omega) (by omega) (by omega) (by omega)
      have t3 := (ttick_rules N B).trans hru
      rw [t1]
      (conv => whnf)
      refine RngC.mk (by omega) (by omega) ?_
      (conv => whnf)
      refine LoopE.mk ⟨_, [(17, .int .i64 ((k + 1 : Nat) : Int)), (15, _), (13, _), (12, _), (4, _), (1, _)], ?_, ⟨rfl, rfl, rfl, rfl, rfl, rfl, trivial⟩, ⟨k + 1, _, _, rfl, rfl, by omega, t2, t3, hS⟩⟩
      omega
    obtain rfl : k = 10 := by omega
    obtain ⟨_, hact, _⟩ := p2.at_.resolve_left (fun h => absurd h.1 (by decide))
    obtain ⟨i1, i2, i3, i4⟩ := inside_first (B := B) p2.ok p2.pow.bok hact p2.tab hru herr hbs
    rw [p2.now] at i3
    rw [hts, p2.now] at i4
    (conv => whnf)
    refine hS.laX 10 rfl rfl ?_
    (conv => whnf)
    refine (ninside_ok P hS.has.left.left p2.ok (by omega) (hE.ext hS.ext hqW) (fun d hd => hS.high hqW (Nat.le_refl _) d (inF_app.2 (.inl (inF_app.2 (.inl hd)))))).mono ?_
    rintro v w' ⟨rfl, ht⟩
    replace hS : St W No w' (nodeH A (N.inside P).2.2 ++ ([blk A.b 103 (encBy B)] ++ [blk bi 26 [.int .i64 ia, .int .i64 ip], blk bf 26 [.int .i64 fa, .int .i64 fp], blk bp 28 (encPkt P)])) := St.call (H := nodeH A N) (B := [blk A.b 103 (encBy B)] ++ [blk bi 26 [.int .i64 ia, .int .i64 ip], blk bf 26 [.int .i64 fa, .int .i64 fp], blk bp 28 (encPkt P)]) hS ht
    clear ht
    rw [i1, i2]
    generalize N.tab.life = life at i2 i4 ⊢
    generalize (N.inside P).2.2 = N2 at hS i3 i4
    clear i1 i2 p2 hact hru
    have hfit : ∀ t, Fits P ⟨P.proto, P.sa, P.sp, P.da, P.dp, life, (1), t⟩ := fun t => ⟨rfl, rfl, rfl, rfl, rfl⟩
    (conv => whnf)
    refine hS.new (fun bx w' hbx hS => ?_)
    (conv => whnf)
    refine hS.st 11 rfl (Nat.le_of_ble_eq_true rfl) rfl (fun w' hS => ?_)
    replace hS : St W No w' (nodeB A N2 B ++ [blk bi 26 [.int .i64 ia, .int .i64 ip], blk bf 26 [.int .i64 fa, .int .i64 fp], blk bp 28 (encPkt P), blk bx 28 (encPkt ⟨P.proto, 1, life, P.da, P.dp, P.flags⟩)]) := hS
    (conv => whnf)
    refine loopR tabOk (fun σ w' q => ∃ (i : Nat) (N : NodeS) (B : BytS), σ = [(21, .int .i64 i), (20, .pointer (some ⟨bx, 0, none⟩)), (15, .pointer (some ⟨A.n, 0, none⟩)), (13, .int .i64 (10)), (12, .pointer (some ⟨bp, 0, none⟩)), (4, .slice a0 n0 c0), (1, .int .i64 proto)] ∧ q = n0 - i ∧ i ≤ n0 ∧ 0 ≤ N.now ∧ N.now ≤ 10 + 60 * i ∧ Timed (400 + 3000 * i) N B ⟨P.proto, P.sa, P.sp, P.da, P.dp, life, (1), N.now + (10)⟩ ∧ St W No w' (nodeB A N B ++ [blk bi 26 [.int .i64 ia, .int .i64 ip], blk bf 26 [.int .i64 fa, .int .i64 fp], blk bp 28 (encPkt P), blk bx 28 (encPkt ⟨P.proto, 1, life, P.da, P.dp, P.flags⟩)]))
      (σ' := [(21, .int .i64 ((0 : Nat) : Int)), (20, .pointer (some ⟨bx, 0, none⟩)), (15, .pointer (some ⟨A.n, 0, none⟩)), (13, .int .i64 (10)), (12, .pointer (some ⟨bp, 0, none⟩)), (4, .slice a0 n0 c0), (1, .int .i64 proto)]) (n := n0) ⟨rfl, rfl, rfl, rfl, rfl, rfl, rfl, trivial⟩ ⟨0, N2, B, rfl, rfl, Nat.zero_le _, by rw [i3]; decide, by rw [i3]; decide, by rw [i3]; exact i4.mono (by decide), hS⟩ ?_
    clear hS i3 i4
    rintro _ w7 q ⟨i, N3, B3, rfl, rfl, hi, hn0, hn1, hT, hS⟩
    (conv => whnf)
    refine brD (fun h7 => ?_) (fun h7 => ?_)
    · obtain ⟨b0, o0, x, hxk, _, rfl, hb0, hc⟩ := hx.at (k := i) (by omega)
      have hcx := hc.one 0 (v := .int .i64 x) rfl
      (conv => whnf)
      refine IdxC.mk (by omega) (by omega) ?_
      (conv => whnf)
      refine hS.ldr hcx (fun h => h) ?_
      (conv => whnf)
      refine brD (fun h8 => ?_) (fun h8 => ?_)
      · (conv => whnf)
        refine RngC.mk (by omega) (by omega) ?_
        (conv => whnf)
        refine LoopE.mk ⟨_, [(21, .int .i64 ((i + 1 : Nat) : Int)), (20, _), (15, _), (13, _), (12, _), (4, _), (1, _)], ?_, ⟨rfl, rfl, rfl, rfl, rfl, rfl, rfl, trivial⟩, ⟨i + 1, N3, B3, rfl, rfl, by omega, hn0, by omega, hT.mono (by omega), hS⟩⟩
        omega
      (conv => whnf)
      refine IdxC.mk (by omega) (by omega) ?_
      (conv => whnf)
      refine hS.ldr hcx (fun h => h) ?_
      (conv => whnf)
      refine brD (fun h9 => ?_) (fun h9 => ?_)
      · (conv => whnf)
        refine RngC.mk (by omega) (by omega) ?_
        (conv => whnf)
        refine LoopE.mk ⟨_, [(21, .int .i64 ((i + 1 : Nat) : Int)), (20, _), (15, _), (13, _), (12, _), (4, _), (1, _)], ?_, ⟨rfl, rfl, rfl, rfl, rfl, rfl, rfl, trivial⟩, ⟨i + 1, N3, B3, rfl, rfl, by omega, hn0, by omega, hT.mono (by omega), hS⟩⟩
        omega
      (conv => whnf)
      refine loopR tabOk (fun σ w' q => ∃ (k : Nat) (N : NodeS) (B : BytS), σ = [(22, .int .i64 k), (21, .int .i64 i), (20, .pointer (some ⟨bx, 0, none⟩)), (15, .pointer (some ⟨A.n, 0, none⟩)), (13, .int .i64 (10)), (12, .pointer (some ⟨bp, 0, none⟩)), (4, .slice (some ⟨b0, o0, none⟩) n0 c0), (1, .int .i64 proto)] ∧ q = x.toNat - k ∧ k ≤ x.toNat ∧ N.now = N3.now + k ∧ Timed (400 + 3000 * i + 34 * k) N B ⟨P.proto, P.sa, P.sp, P.da, P.dp, life, (1), N3.now + (10)⟩ ∧ St W No w' (nodeB A N B ++ [blk bi 26 [.int .i64 ia, .int .i64 ip], blk bf 26 [.int .i64 fa, .int .i64 fp], blk bp 28 (encPkt P), blk bx 28 (encPkt ⟨P.proto, 1, life, P.da, P.dp, P.flags⟩)]))
        (σ' := [(22, .int .i64 ((0 : Nat) : Int)), (21, .int .i64 i), (20, .pointer (some ⟨bx, 0, none⟩)), (15, .pointer (some ⟨A.n, 0, none⟩)), (13, .int .i64 (10)), (12, .pointer (some ⟨bp, 0, none⟩)), (4, .slice (some ⟨b0, o0, none⟩) n0 c0), (1, .int .i64 proto)]) (n := x.toNat) ⟨rfl, rfl, rfl, rfl, rfl, rfl, rfl, rfl, trivial⟩ ⟨0, N3, B3, rfl, rfl, Nat.zero_le _, by omega, hT, hS⟩ ?_
      clear hS hT
      rintro _ w8 q ⟨k, N4, B4, rfl, rfl, hk, hnow, hT, hS⟩
      (conv => whnf)
      refine IdxC.mk (by omega) (by omega) ?_
      (conv => whnf)
      refine hS.ldr hcx (fun h => h) ?_
      (conv => whnf)
      refine brD (fun h10 => ?_) (fun h10 => ?_)
      · (conv => whnf)
        refine (ntick_ok hS.has.left hT.ok hT.bok (by omega) ((hE.ext hS.ext hqW).sub rfl) (fun d hd => hS.high hqW (Nat.le_refl _) d (inF_app.2 (.inl hd)))).mono ?_
        rintro v w' ⟨a2, c2, x2, y2, rfl, ht⟩
        replace hS := (St.call hS ht).sel [0, 1, 2, 3, 4, 5, 6, 7, 10, 11, 12, 13] (by decide)
        obtain ⟨t1, t2, t3⟩ := hT.tick (by omega) (by omega)
        rw [if_neg (by dsimp only; omega)] at t3
        rw [t1]
        (conv => whnf)
        refine RngC.mk (by omega) (by omega) ?_
        (conv => whnf)
        refine LoopE.mk ⟨_, [(22, .int .i64 ((k + 1 : Nat) : Int)), (21, _), (20, _), (15, _), (13, _), (12, _), (4, _), (1, _)], ?_, ⟨rfl, rfl, rfl, rfl, rfl, rfl, rfl, rfl, trivial⟩, ⟨k + 1, _, _, rfl, rfl, by omega, by rw [t2, hnow]; omega, t3.mono (by omega), hS⟩⟩
        omega
      obtain ⟨i1, i2, i3, i4⟩ := hT.inside herr (hfit _) hpr hnx
      dsimp only at i2 i4
      rw [hts] at i4
      (conv => whnf)
      refine hS.laX 10 rfl rfl ?_
      (conv => whnf)
      refine (ninside_ok P hS.has.left.left hT.ok (by omega) (hE.ext hS.ext hqW) (fun d hd => hS.high hqW (Nat.le_refl _) d (inF_app.2 (.inl (inF_app.2 (.inl hd)))))).mono ?_
      rintro v w' ⟨rfl, ht⟩
      replace hS := St.call (H := nodeH A N4) (B := [blk A.b 103 (encBy B4)] ++ [blk bi 26 [.int .i64 ia, .int .i64 ip], blk bf 26 [.int .i64 fa, .int .i64 fp], blk bp 28 (encPkt P), blk bx 28 (encPkt ⟨P.proto, 1, life, P.da, P.dp, P.flags⟩)]) hS ht
      clear ht
      rw [i1, i2]
      generalize (N4.inside P).2.2 = N5 at hS i3 i4
      (conv => whnf)
      refine hS.new (fun by_ w' hby hS => ?_)
      (conv => whnf)
      refine hS.st 12 rfl (Nat.le_of_ble_eq_true rfl) rfl (fun w' hS => ?_)
      (conv => whnf)
      refine hS.laX 12 rfl rfl ?_
      (conv => whnf)
      refine hS.laX 11 rfl rfl ?_
      (conv => whnf)
      refine nePkt1 ?_
      replace hS := hS.keep 12
      (conv => whnf)
      refine RngC.mk (by omega) (by omega) ?_
      (conv => whnf)
      refine LoopE.mk ⟨_, [(21, .int .i64 ((i + 1 : Nat) : Int)), (20, _), (15, _), (13, _), (12, _), (4, _), (1, _)], ?_, ⟨rfl, rfl, rfl, rfl, rfl, rfl, rfl, trivial⟩, ⟨i + 1, N5, B4, rfl, rfl, by omega, by omega, by omega, by rw [i3]; exact i4.mono (by omega), hS⟩⟩
      omega
    replace hS : St W No w7 (nodeB A N3 B3) := hS.keep 8
    (conv => whnf)
    refine loopR tabOk (fun σ w' q => ∃ (k : Nat) (N : NodeS) (B : BytS), σ = [(27, .int .i64 k), (15, .pointer (some ⟨A.n, 0, none⟩)), (13, .int .i64 (10)), (1, .int .i64 proto)] ∧ q = (10) - k ∧ k ≤ (10) ∧ N.now = N3.now + k ∧ Timed (400 + 3000 * n0 + 34 * k) N B (if k < (10) then ⟨P.proto, P.sa, P.sp, P.da, P.dp, life, (1), N3.now + (10)⟩ else noFlow) ∧ St W No w' (nodeB A N B))
      (σ' := [(27, .int .i64 ((0 : Nat) : Int)), (15, .pointer (some ⟨A.n, 0, none⟩)), (13, .int .i64 (10)), (1, .int .i64 proto)]) (n := (10)) ⟨rfl, rfl, rfl, rfl, trivial⟩ ⟨0, N3, B3, rfl, rfl, Nat.zero_le _, by omega, by rw [if_pos (by decide)]; exact hT.mono (by omega), hS⟩ ?_
    clear hS hT
    rintro _ w8 q ⟨k, N4, B4, rfl, rfl, hk, hnow, hT, hS⟩
    (conv => whnf)
    refine brD (fun h10 => ?_) (fun h10 => ?_)
    · rw [if_pos (by omega)] at hT
      obtain ⟨c, hc0, hcf⟩ := hT.at0
      (conv => whnf)
      refine (ntable_ok (N := N4) hS.has.left hT.ok.tab.len).mono ?_
      rintro v w' ⟨a1, c1, rfl, hx', ho, hf⟩
      replace hS := hS.made hx' ownL_local ho (fun g hg => hf g (by simpa [ownL, own] using hg))
      clear hx' ho hf
      obtain ⟨b3, o3, y, hy, _, rfl, _, hd⟩ := (ownL_slc (G := fun _ => True) codCell (hS.get 8 rfl) (fun _ _ => trivial)).at (k := 0) (by decide)
      rw [hc0] at hy
      obtain rfl := Option.some.inj hy
      (conv => whnf)
      refine IdxC.mk (by decide) (by decide) ?_
      (conv => whnf)
      refine ldc (hd.one 2 (v := .int .i64 c.f.proto) rfl) ?_
      rw [show c.f.proto = proto by rw [hcf]; exact hPp]
      (conv => whnf)
      refine brND (fun h => absurd rfl h) (fun _ => ?_)
      replace hS : St W No _ (nodeB A N4 B4) := hS.keep 8
      (conv => whnf)
      refine (ntick_ok hS.has hT.ok hT.bok (by omega) ((hE.ext hS.ext hqW).sub rfl) (hS.high hqW (Nat.le_refl _))).mono ?_
      rintro v w' ⟨a2, c2, x2, y2, rfl, ht⟩
      replace hS := (hS.turned ht).keep 8
      obtain ⟨t1, t2, t3⟩ := hT.tick (by omega) (by omega)
      rw [t1]
      (conv => whnf)
      refine RngC.mk (by omega) (by omega) ?_
      (conv => whnf)
      refine LoopE.mk ⟨_, [(27, .int .i64 ((k + 1 : Nat) : Int)), (15, _), (13, _), (1, _)], ?_, ⟨rfl, rfl, rfl, rfl, trivial⟩, ⟨k + 1, _, _, rfl, rfl, by omega, by rw [t2, hnow]; omega, ?_, hS⟩⟩
      · omega
      · by_cases hlast : k + 1 < (10)
        · rw [if_neg (by dsimp only; omega)] at t3
          rw [if_pos hlast]
          exact t3.mono (by omega)
        · rw [if_pos ⟨hpr, by dsimp only; omega⟩] at t3
          rw [if_neg hlast]
          exact t3.mono (by omega)
    rw [if_neg (by omega)] at hT
    obtain ⟨c, hc0, hcf⟩ := hT.at0
    (conv => whnf)
    refine (ntable_ok (N := N4) hS.has.left hT.ok.tab.len).mono ?_
    rintro v w' ⟨a1, c1, rfl, hx', ho, hf⟩
    replace hS := hS.made hx' ownL_local ho (fun g hg => hf g (by simpa [ownL, own] using hg))
    clear hx' ho hf
    obtain ⟨b3, o3, y, hy, _, rfl, _, hd⟩ := (ownL_slc (G := fun _ => True) codCell (hS.get 8 rfl) (fun _ _ => trivial)).at (k := 0) (by decide)
    rw [hc0] at hy
    obtain rfl := Option.some.inj hy
    (conv => whnf)
    refine IdxC.mk (by decide) (by decide) ?_
    (conv => whnf)
    refine ldc (hd.one 2 (v := .int .i64 c.f.proto) rfl) ?_
    rw [show c.f.proto = 0 by rw [hcf]; rfl]
    repeat' ((conv => whnf); first | refine RetC.mk ?_ | refine NzC.mk (by decide) ?_ | refine RngC.mk (by omega) (by omega) ?_ | refine IdxC.mk (by omega) (by omega) ?_ | refine brD (fun _ => ?_) (fun _ => ?_) | refine brND (fun _ => ?_) (fun _ => ?_) | refine brN (fun _ => ?_) (fun _ => ?_) | refine brI (fun _ => ?_) (fun _ => ?_))
    exact ⟨rfl, hS.ext⟩
  · skip
    (conv => whnf)
    refine hS.laX 2 rfl rfl ?_
    (conv => whnf)
    refine (perror_ok (⟨proto, ia, ip, fa, fp, 0⟩ : PktS) _).mono ?_
    rintro v w' ⟨rfl, hx'⟩
    replace hS := hS.no hx'
    clear hx'
    (conv => whnf)
    refine brD (fun h5 => ?_) (fun h5 => ?_)
    · repeat' ((conv => whnf); first | refine RetC.mk ?_ | refine NzC.mk (by decide) ?_ | refine RngC.mk (by omega) (by omega) ?_ | refine IdxC.mk (by omega) (by omega) ?_ | refine brD (fun _ => ?_) (fun _ => ?_) | refine brND (fun _ => ?_) (fun _ => ?_) | refine brN (fun _ => ?_) (fun _ => ?_) | refine brI (fun _ => ?_) (fun _ => ?_))
      exact ⟨rfl, hS.ext⟩
    have herr : (⟨proto, ia, ip, fa, fp, 0⟩ : PktS).err = 0 := by omega
    have hbs : beginS (⟨proto, ia, ip, fa, fp, 0⟩ : PktS).proto (⟨proto, ia, ip, fa, fp, 0⟩ : PktS).flags = ((2), 0) := by have h1 : proto = 1 := pk_one herr h4; show beginS proto 0 = (2, 0); rw [h1]; rfl
    have hts : timeS (⟨proto, ia, ip, fa, fp, 0⟩ : PktS).proto (2) = (60) := by have h1 : proto = 1 := pk_one herr h4; show timeS proto 2 = 60; rw [h1]; rfl
    have hnx : nextS (⟨proto, ia, ip, fa, fp, 0⟩ : PktS).proto (2) (⟨proto, ia, ip, fa, fp, 0⟩ : PktS).flags true = ((2), false) := by have h1 : proto = 1 := pk_one herr h4; show nextS proto 2 0 true = (2, false); rw [h1]; kernel_rfl
    have hpr : (⟨proto, ia, ip, fa, fp, 0⟩ : PktS).proto ≠ 0 := by have h1 : proto = 1 := pk_one herr h4; show proto ≠ 0; omega
    have hPp : (⟨proto, ia, ip, fa, fp, 0⟩ : PktS).proto = proto := rfl
    generalize (⟨proto, ia, ip, fa, fp, 0⟩ : PktS) = P at hS herr hbs hts hnx hpr hPp ⊢
    clear h5
    (conv => whnf)
    refine (newBytes_ok _).mono ?_
    rintro v w' ⟨b, rfl, hb, hx', hB⟩
    replace hS := hS.made hx' (blk_local _ _ _) hB (by simp [blk]; exact ⟨hb, hB.lt⟩)
    have fb := hS.fresh 3 rfl
    clear hx' hB hb
    (conv => whnf)
    refine hS.litX (cs := encRule allowAll) Tryd.underlying22 (sz := 5) (by kernel_rfl) (z := .agg (encRule noRule).toArray) (by kernel_rfl) rfl rfl (by rfl) (fun b2 w' hb2 hx1 hS => ?_)
    clear hx1
    have hne := hS.ne 4 3 rfl rfl (by decide)
    have hslc : Slc w' 5 encRule (fun _ => True) (some ⟨b2, 0, none⟩) 1 [allowAll] := Slc.of_blk codRule (hS.blk 4 rfl) rfl (by simp) (fun _ _ => trivial) rfl
    obtain ⟨p1, p2⟩ := Lived.born (id := nid) (B := by0) (rules := [allowAll]) hid rfl ⟨by0_bok, rfl, rfl⟩ (by rw [h0]; decide) (by rw [h0]; decide) (by rw [h0]; decide)
    (conv => whnf)
    refine (nnew_ok nid hid hslc (by decide) rfl (fun _ b0 o0 e => by cases e; exact hne) (hS.blk 3 rfl) by0_bok rfl ((hE.ext hS.ext fun _ h => h.elim).sub rfl) fb).mono ?_
    rintro v w' (⟨_, A, hAb, rfl, ht⟩ | ⟨hn2, _⟩)
    case inr => exact absurd p1 hn2
    have hs1 := hS.sel [3, 0, 1, 2] (by decide)
    replace hS := St.call (H := [blk b 103 (encBy by0)]) (B := [blk bi 26 [.int .i64 ia, .int .i64 ip], blk bf 26 [.int .i64 fa, .int .i64 fp], blk bp 28 (encPkt P)]) hs1 ht
    clear ht hs1 hslc hne
    rw [h0] at p2
    have hru : (newN nid by0 [allowAll]).2.1.rules = [allowAll] := rfl
    generalize (newN nid by0 [allowAll]).2 = T at hS p2 hru
    obtain ⟨N, B⟩ := T
    dsimp only at hS p2 hru
    (conv => whnf)
    refine loopR tabOk (fun σ w' q => ∃ (k : Nat) (N : NodeS) (B : BytS), σ = [(17, .int .i64 k), (15, .pointer (some ⟨A.n, 0, none⟩)), (13, .int .i64 (60)), (12, .pointer (some ⟨bp, 0, none⟩)), (4, .slice a0 n0 c0), (1, .int .i64 proto)] ∧ q = 10 - k ∧ k ≤ 10 ∧ Lived 0 1 1 k N B ∧ N.rules = [allowAll] ∧ St W No w' (nodeB A N B ++ [blk bi 26 [.int .i64 ia, .int .i64 ip], blk bf 26 [.int .i64 fa, .int .i64 fp], blk bp 28 (encPkt P)]))
      (σ' := [(17, .int .i64 ((0 : Nat) : Int)), (15, .pointer (some ⟨A.n, 0, none⟩)), (13, .int .i64 (60)), (12, .pointer (some ⟨bp, 0, none⟩)), (4, .slice a0 n0 c0), (1, .int .i64 proto)]) (n := 10) ⟨rfl, rfl, rfl, rfl, rfl, rfl, trivial⟩ ⟨0, N, B, rfl, rfl, Nat.zero_le _, p2, hru, hS⟩ ?_
    clear hS p2 hru
    clear N B
    rintro _ w6 q ⟨k, N, B, rfl, rfl, hk, p2, hru, hS⟩
    (conv => whnf)
    refine brD (fun h6 => ?_) (fun h6 => ?_)
    · (conv => whnf)
      refine (ntick_ok hS.has.left p2.ok p2.pow.bok (by omega) ((hE.ext hS.ext hqW).sub rfl) (fun d hd => hS.high hqW (Nat.le_refl _) d (inF_app.2 (.inl hd)))).mono ?_
      rintro v w' ⟨a2, c2, x2, y2, rfl, ht⟩
      replace hS := (St.call hS ht).sel [0, 1, 2, 3, 4, 5, 6, 7, 10, 11, 12] (by decide)
      obtain ⟨t1, t2⟩ := p2.tick (by omega) (by omega) (by omega) (by omega)
      have t3 := (ttick_rules N B).trans hru
      rw [t1]
      (conv => whnf)
      refine RngC.mk (by omega) (by omega) ?_
      (conv => whnf)
      refine LoopE.mk ⟨_, [(17, .int .i64 ((k + 1 : Nat) : Int)), (15, _), (13, _), (12, _), (4, _), (1, _)], ?_, ⟨rfl, rfl, rfl, rfl, rfl, rfl, trivial⟩, ⟨k + 1, _, _, rfl, rfl, by omega, t2, t3, hS⟩⟩
      omega
    obtain rfl : k = 10 := by omega
    obtain ⟨_, hact, _⟩ := p2.at_.resolve_left (fun h => absurd h.1 (by decide))
    obtain ⟨i1, i2, i3, i4⟩ := inside_first (B := B) p2.ok p2.pow.bok hact p2.tab hru herr hbs
    rw [p2.now] at i3
    rw [hts, p2.now] at i4
    (conv => whnf)
    refine hS.laX 10 rfl rfl ?_
    (conv => whnf)
    refine (ninside_ok P hS.has.left.left p2.ok (by omega) (hE.ext hS.ext hqW) (fun d hd => hS.high hqW (Nat.le_refl _) d (inF_app.2 (.inl (inF_app.2 (.inl hd)))))).mono ?_
    rintro v w' ⟨rfl, ht⟩
    replace hS : St W No w' (nodeH A (N.inside P).2.2 ++ ([blk A.b 103 (encBy B)] ++ [blk bi 26 [.int .i64 ia, .int .i64 ip], blk bf 26 [.int .i64 fa, .int .i64 fp], blk bp 28 (encPkt P)])) := St.call (H := nodeH A N) (B := [blk A.b 103 (encBy B)] ++ [blk bi 26 [.int .i64 ia, .int .i64 ip], blk bf 26 [.int .i64 fa, .int .i64 fp], blk bp 28 (encPkt P)]) hS ht
    clear ht
    rw [i1, i2]
    generalize N.tab.life = life at i2 i4 ⊢
    generalize (N.inside P).2.2 = N2 at hS i3 i4
    clear i1 i2 p2 hact hru
    have hfit : ∀ t, Fits P ⟨P.proto, P.sa, P.sp, P.da, P.dp, life, (2), t⟩ := fun t => ⟨rfl, rfl, rfl, rfl, rfl⟩
    (conv => whnf)
    refine hS.new (fun bx w' hbx hS => ?_)
    (conv => whnf)
    refine hS.st 11 rfl (Nat.le_of_ble_eq_true rfl) rfl (fun w' hS => ?_)
    replace hS : St W No w' (nodeB A N2 B ++ [blk bi 26 [.int .i64 ia, .int .i64 ip], blk bf 26 [.int .i64 fa, .int .i64 fp], blk bp 28 (encPkt P), blk bx 28 (encPkt ⟨P.proto, 1, life, P.da, P.dp, P.flags⟩)]) := hS
    (conv => whnf)
    refine loopR tabOk (fun σ w' q => ∃ (i : Nat) (N : NodeS) (B : BytS), σ = [(21, .int .i64 i), (20, .pointer (some ⟨bx, 0, none⟩)), (15, .pointer (some ⟨A.n, 0, none⟩)), (13, .int .i64 (60)), (12, .pointer (some ⟨bp, 0, none⟩)), (4, .slice a0 n0 c0), (1, .int .i64 proto)] ∧ q = n0 - i ∧ i ≤ n0 ∧ 0 ≤ N.now ∧ N.now ≤ 10 + 60 * i ∧ Timed (400 + 3000 * i) N B ⟨P.proto, P.sa, P.sp, P.da, P.dp, life, (2), N.now + (60)⟩ ∧ St W No w' (nodeB A N B ++ [blk bi 26 [.int .i64 ia, .int .i64 ip], blk bf 26 [.int .i64 fa, .int .i64 fp], blk bp 28 (encPkt P), blk bx 28 (encPkt ⟨P.proto, 1, life, P.da, P.dp, P.flags⟩)]))
      (σ' := [(21, .int .i64 ((0 : Nat) : Int)), (20, .pointer (some ⟨bx, 0, none⟩)), (15, .pointer (some ⟨A.n, 0, none⟩)), (13, .int .i64 (60)), (12, .pointer (some ⟨bp, 0, none⟩)), (4, .slice a0 n0 c0), (1, .int .i64 proto)]) (n := n0) ⟨rfl, rfl, rfl, rfl, rfl, rfl, rfl, trivial⟩ ⟨0, N2, B, rfl, rfl, Nat.zero_le _, by rw [i3]; decide, by rw [i3]; decide, by rw [i3]; exact i4.mono (by decide), hS⟩ ?_
    clear hS i3 i4
    rintro _ w7 q ⟨i, N3, B3, rfl, rfl, hi, hn0, hn1, hT, hS⟩
    (conv => whnf)
    refine brD (fun h7 => ?_) (fun h7 => ?_)
    · obtain ⟨b0, o0, x, hxk, _, rfl, hb0, hc⟩ := hx.at (k := i) (by omega)
      have hcx := hc.one 0 (v := .int .i64 x) rfl
      (conv => whnf)
      refine IdxC.mk (by omega) (by omega) ?_
      (conv => whnf)
      refine hS.ldr hcx (fun h => h) ?_
      (conv => whnf)
      refine brD (fun h8 => ?_) (fun h8 => ?_)
      · (conv => whnf)
        refine RngC.mk (by omega) (by omega) ?_
        (conv => whnf)
        refine LoopE.mk ⟨_, [(21, .int .i64 ((i + 1 : Nat) : Int)), (20, _), (15, _), (13, _), (12, _), (4, _), (1, _)], ?_, ⟨rfl, rfl, rfl, rfl, rfl, rfl, rfl, trivial⟩, ⟨i + 1, N3, B3, rfl, rfl, by omega, hn0, by omega, hT.mono (by omega), hS⟩⟩
        omega
      (conv => whnf)
      refine IdxC.mk (by omega) (by omega) ?_
      (conv => whnf)
      refine hS.ldr hcx (fun h => h) ?_
      (conv => whnf)
      refine brD (fun h9 => ?_) (fun h9 => ?_)
      · (conv => whnf)
        refine RngC.mk (by omega) (by omega) ?_
        (conv => whnf)
        refine LoopE.mk ⟨_, [(21, .int .i64 ((i + 1 : Nat) : Int)), (20, _), (15, _), (13, _), (12, _), (4, _), (1, _)], ?_, ⟨rfl, rfl, rfl, rfl, rfl, rfl, rfl, trivial⟩, ⟨i + 1, N3, B3, rfl, rfl, by omega, hn0, by omega, hT.mono (by omega), hS⟩⟩
        omega
      (conv => whnf)
      refine loopR tabOk (fun σ w' q => ∃ (k : Nat) (N : NodeS) (B : BytS), σ = [(22, .int .i64 k), (21, .int .i64 i), (20, .pointer (some ⟨bx, 0, none⟩)), (15, .pointer (some ⟨A.n, 0, none⟩)), (13, .int .i64 (60)), (12, .pointer (some ⟨bp, 0, none⟩)), (4, .slice (some ⟨b0, o0, none⟩) n0 c0), (1, .int .i64 proto)] ∧ q = x.toNat - k ∧ k ≤ x.toNat ∧ N.now = N3.now + k ∧ Timed (400 + 3000 * i + 34 * k) N B ⟨P.proto, P.sa, P.sp, P.da, P.dp, life, (2), N3.now + (60)⟩ ∧ St W No w' (nodeB A N B ++ [blk bi 26 [.int .i64 ia, .int .i64 ip], blk bf 26 [.int .i64 fa, .int .i64 fp], blk bp 28 (encPkt P), blk bx 28 (encPkt ⟨P.proto, 1, life, P.da, P.dp, P.flags⟩)]))
        (σ' := [(22, .int .i64 ((0 : Nat) : Int)), (21, .int .i64 i), (20, .pointer (some ⟨bx, 0, none⟩)), (15, .pointer (some ⟨A.n, 0, none⟩)), (13, .int .i64 (60)), (12, .pointer (some ⟨bp, 0, none⟩)), (4, .slice (some ⟨b0, o0, none⟩) n0 c0), (1, .int .i64 proto)]) (n := x.toNat) ⟨rfl, rfl, rfl, rfl, rfl, rfl, rfl, rfl, trivial⟩ ⟨0, N3, B3, rfl, rfl, Nat.zero_le _, by omega, hT, hS⟩ ?_
      clear hS hT
      rintro _ w8 q ⟨k, N4, B4, rfl, rfl, hk, hnow, hT, hS⟩
      (conv => whnf)
      refine IdxC.mk (by omega) (by omega) ?_
      (conv => whnf)
      refine hS.ldr hcx (fun h => h) ?_
      (conv => whnf)
      refine brD (fun h10 => ?_) (fun h10 => ?_)
      · (conv => whnf)
        refine (ntick_ok hS.has.left hT.ok hT.bok (by omega) ((hE.ext hS.ext hqW).sub rfl) (fun d hd => hS.high hqW (Nat.le_refl _) d (inF_app.2 (.inl hd)))).mono ?_
        rintro v w' ⟨a2, c2, x2, y2, rfl, ht⟩
        replace hS := (St.call hS ht).sel [0, 1, 2, 3, 4, 5, 6, 7, 10, 11, 12, 13] (by decide)
        obtain ⟨t1, t2, t3⟩ := hT.tick (by omega) (by omega)
        rw [if_neg (by dsimp only; omega)] at t3
        rw [t1]
        (conv => whnf)
        refine RngC.mk (by omega) (by omega) ?_
        (conv => whnf)
        refine LoopE.mk ⟨_, [(22, .int .i64 ((k + 1 : Nat) : Int)), (21, _), (20, _), (15, _), (13, _), (12, _), (4, _), (1, _)], ?_, ⟨rfl, rfl, rfl, rfl, rfl, rfl, rfl, rfl, trivial⟩, ⟨k + 1, _, _, rfl, rfl, by omega, by rw [t2, hnow]; omega, t3.mono (by omega), hS⟩⟩
        omega
      obtain ⟨i1, i2, i3, i4⟩ := hT.inside herr (hfit _) hpr hnx
      dsimp only at i2 i4
      rw [hts] at i4
      (conv => whnf)
      refine hS.laX 10 rfl rfl ?_
      (conv => whnf)
      refine (ninside_ok P hS.has.left.left hT.ok (by omega) (hE.ext hS.ext hqW) (fun d hd => hS.high hqW (Nat.le_refl _) d (inF_app.2 (.inl (inF_app.2 (.inl hd)))))).mono ?_
      rintro v w' ⟨rfl, ht⟩
      replace hS := St.call (H := nodeH A N4) (B := [blk A.b 103 (encBy B4)] ++ [blk bi 26 [.int .i64 ia, .int .i64 ip], blk bf 26 [.int .i64 fa, .int .i64 fp], blk bp 28 (encPkt P), blk bx 28 (encPkt ⟨P.proto, 1, life, P.da, P.dp, P.flags⟩)]) hS ht
      clear ht
      rw [i1, i2]
      generalize (N4.inside P).2.2 = N5 at hS i3 i4
      (conv => whnf)
      refine hS.new (fun by_ w' hby hS => ?_)
      (conv => whnf)
      refine hS.st 12 rfl (Nat.le_of_ble_eq_true rfl) rfl (fun w' hS => ?_)
      (conv => whnf)
      refine hS.laX 12 rfl rfl ?_
      (conv => whnf)
      refine hS.laX 11 rfl rfl ?_
      (conv => whnf)
      refine nePkt1 ?_
      replace hS := hS.keep 12
      (conv => whnf)
      refine RngC.mk (by omega) (by omega) ?_
      (conv => whnf)
      refine LoopE.mk ⟨_, [(21, .int .i64 ((i + 1 : Nat) : Int)), (20, _), (15, _), (13, _), (12, _), (4, _), (1, _)], ?_, ⟨rfl, rfl, rfl, rfl, rfl, rfl, rfl, trivial⟩, ⟨i + 1, N5, B4, rfl, rfl, by omega, by omega, by omega, by rw [i3]; exact i4.mono (by omega), hS⟩⟩
      omega
    replace hS : St W No w7 (nodeB A N3 B3) := hS.keep 8
    (conv => whnf)
    refine loopR tabOk (fun σ w' q => ∃ (k : Nat) (N : NodeS) (B : BytS), σ = [(27, .int .i64 k), (15, .pointer (some ⟨A.n, 0, none⟩)), (13, .int .i64 (60)), (1, .int .i64 proto)] ∧ q = (60) - k ∧ k ≤ (60) ∧ N.now = N3.now + k ∧ Timed (400 + 3000 * n0 + 34 * k) N B (if k < (60) then ⟨P.proto, P.sa, P.sp, P.da, P.dp, life, (2), N3.now + (60)⟩ else noFlow) ∧ St W No w' (nodeB A N B))
      (σ' := [(27, .int .i64 ((0 : Nat) : Int)), (15, .pointer (some ⟨A.n, 0, none⟩)), (13, .int .i64 (60)), (1, .int .i64 proto)]) (n := (60)) ⟨rfl, rfl, rfl, rfl, trivial⟩ ⟨0, N3, B3, rfl, rfl, Nat.zero_le _, by omega, by rw [if_pos (by decide)]; exact hT.mono (by omega), hS⟩ ?_
    clear hS hT
    rintro _ w8 q ⟨k, N4, B4, rfl, rfl, hk, hnow, hT, hS⟩
    (conv => whnf)
    refine brD (fun h10 => ?_) (fun h10 => ?_)
    · rw [if_pos (by omega)] at hT
      obtain ⟨c, hc0, hcf⟩ := hT.at0
      (conv => whnf)
      refine (ntable_ok (N := N4) hS.has.left hT.ok.tab.len).mono ?_
      rintro v w' ⟨a1, c1, rfl, hx', ho, hf⟩
      replace hS := hS.made hx' ownL_local ho (fun g hg => hf g (by simpa [ownL, own] using hg))
      clear hx' ho hf
      obtain ⟨b3, o3, y, hy, _, rfl, _, hd⟩ := (ownL_slc (G := fun _ => True) codCell (hS.get 8 rfl) (fun _ _ => trivial)).at (k := 0) (by decide)
      rw [hc0] at hy
      obtain rfl := Option.some.inj hy
      (conv => whnf)
      refine IdxC.mk (by decide) (by decide) ?_
      (conv => whnf)
      refine ldc (hd.one 2 (v := .int .i64 c.f.proto) rfl) ?_
      rw [show c.f.proto = proto by rw [hcf]; exact hPp]
      (conv => whnf)
      refine brND (fun h => absurd rfl h) (fun _ => ?_)
      replace hS : St W No _ (nodeB A N4 B4) := hS.keep 8
      (conv => whnf)
      refine (ntick_ok hS.has hT.ok hT.bok (by omega) ((hE.ext hS.ext hqW).sub rfl) (hS.high hqW (Nat.le_refl _))).mono ?_
      rintro v w' ⟨a2, c2, x2, y2, rfl, ht⟩
      replace hS := (hS.turned ht).keep 8
      obtain ⟨t1, t2, t3⟩ := hT.tick (by omega) (by omega)
      rw [t1]
      (conv => whnf)
      refine RngC.mk (by omega) (by omega) ?_
      (conv => whnf)
      refine LoopE.mk ⟨_, [(27, .int .i64 ((k + 1 : Nat) : Int)), (15, _), (13, _), (1, _)], ?_, ⟨rfl, rfl, rfl, rfl, trivial⟩, ⟨k + 1, _, _, rfl, rfl, by omega, by rw [t2, hnow]; omega, ?_, hS⟩⟩
      · omega
      · by_cases hlast : k + 1 < (60)
        · rw [if_neg (by dsimp only; omega)] at t3
          rw [if_pos hlast]
          exact t3.mono (by omega)
        · rw [if_pos ⟨hpr, by dsimp only; omega⟩] at t3
          rw [if_neg hlast]
          exact t3.mono (by omega)
    rw [if_neg (by omega)] at hT
    obtain ⟨c, hc0, hcf⟩ := hT.at0
    (conv => whnf)
    refine (ntable_ok (N := N4) hS.has.left hT.ok.tab.len).mono ?_
    rintro v w' ⟨a1, c1, rfl, hx', ho, hf⟩
    replace hS := hS.made hx' ownL_local ho (fun g hg => hf g (by simpa [ownL, own] using hg))
    clear hx' ho hf
    obtain ⟨b3, o3, y, hy, _, rfl, _, hd⟩ := (ownL_slc (G := fun _ => True) codCell (hS.get 8 rfl) (fun _ _ => trivial)).at (k := 0) (by decide)
    rw [hc0] at hy
    obtain rfl := Option.some.inj hy
    (conv => whnf)
    refine IdxC.mk (by decide) (by decide) ?_
    (conv => whnf)
    refine ldc (hd.one 2 (v := .int .i64 c.f.proto) rfl) ?_
    rw [show c.f.proto = 0 by rw [hcf]; rfl]
    repeat' ((conv => whnf); first | refine RetC.mk ?_ | refine NzC.mk (by decide) ?_ | refine RngC.mk (by omega) (by omega) ?_ | refine IdxC.mk (by omega) (by omega) ?_ | refine brD (fun _ => ?_) (fun _ => ?_) | refine brND (fun _ => ?_) (fun _ => ?_) | refine brN (fun _ => ?_) (fun _ => ?_) | refine brI (fun _ => ?_) (fun _ => ?_))
    exact ⟨rfl, hS.ext⟩
theorem nodeTimes_walk {E : Nat → Addr} (W : World) (args : List Value) (hE : Errs W E W.heap.size insErrs) (ha : ArgsOk Tryd.prog W [3, 3, 26, 26, 48] args) :
    CallC Tryd.prog 8 args.toArray W fun v w' => v = .bool true ∧ Ext No W w' := by
  obtain ⟨v0, args, rfl, h0, ha⟩ := ha.cons
  obtain ⟨v1, args, rfl, h1, ha⟩ := ha.cons
  obtain ⟨v2, args, rfl, h2, ha⟩ := ha.cons
  obtain ⟨v3, args, rfl, h3, ha⟩ := ha.cons
  obtain ⟨v4, args, rfl, h4, ha⟩ := ha.cons
  obtain rfl := ha.nil
  obtain ⟨nid, rfl, _⟩ := arg_int Tryd.underlying3 h0
  obtain ⟨proto, rfl, _⟩ := arg_int Tryd.underlying3 h1
  obtain ⟨ia, ip, rfl⟩ := arg_end h2
  obtain ⟨fa, fp, rfl⟩ := arg_end h3
  obtain ⟨d, _⟩ : ∃ d : Nat, 10 ≤ d := ⟨10, Nat.le_refl _⟩
  obtain ⟨a0, n0, c0, xs, rfl, hx, _⟩ := arg_slice (d := d + 1) (sz := 1) (enc := encI) Tryd.underlying48 (by kernel_rfl) (by decide) (dec_int (d := d) Tryd.underlying3) h4
  exact nodeTimes_ok W hE nid proto ia ip fa fp a0 n0 c0 xs (hx.mono fun _ _ => trivial)
end Go.Proofs.YtakdekkieobbaaaDoor
