/-
  Texts of this claim, joined: RefNode, RefRole, RefNodeT, RefNodeN, RWorldH, RWorldA, RWorldB, Play, PlayB, PlayC, PlayD, BornW, NodeL.
-/
import Derived.Test.YtoaghhcjlfiflaaGreatDoorWorldStepsH

namespace Go.Proofs.YtoaghhcjlfiflaaGreatDoor
open Go Ev

structure RNodeA where
  n : Nat
  r : Nat
  c : Nat
  t : Nat
  tg : Nat
  tc : Nat
  x : Nat
  xg : Nat
  xc : Nat
  m : Nat
  mg : Nat
  mc : Nat
  b : Nat
  ra : Option Addr
  rc : Nat
def encRN (A : RNodeA) (N : NodeS) : List Value := [.int .i64 N.id, .int .i64 N.now, .pointer (some ⟨A.c, 0, none⟩), .pointer (some ⟨A.r, 0, none⟩), .pointer (some ⟨A.t, 0, none⟩), .pointer (some ⟨A.x, 0, none⟩), .pointer (some ⟨A.m, 0, none⟩), .slice A.ra N.rules.length A.rc]
def rnodeH (A : RNodeA) (N : NodeS) (R : RBy) : List Ent := [blk A.n 186 (encRN A N), blk A.r 178 (encRole N.role), blk A.c 175 (encCl A.b N.cell), refT A.t A.tg A.tc N.tab, refL A.t A.x A.xg A.xc N.tel, refM A.m A.mg A.mc N.mir, blk A.b 171 (encRB R)]
section
variable {w : World} {A : RNodeA} {N : NodeS} {R : RBy}
theorem St.neF {w0 w : World} {S : Nat → Prop} {H : List Ent} (h : St w0 S w H) (i j : Nat) {b c : Nat} {t : TypeId} {cs : List Value} {e : Ent} (hi : H[i]? = some (Ev.blk b t cs)) (hj : H[j]? = some e) (hne : i ≠ j) (hc : c ∈ e.foot) : b ≠ c := fun hb => h.apartAt i j hi hj hne b (List.mem_singleton.2 rfl) (hb ▸ hc)
theorem rpass_ok {m : Nat} (k : Int) (flags : Int) (out : Bool) (hN : Has w (rnodeH A N R)) (hO : NOk m N) (hm : m ≤ 40000000) (hk : N.tab.flowErr k = 0) :
    CallC Tryz.prog 173 #[.pointer (some ⟨A.n, 0, none⟩), .int .i64 k, .int .i64 flags, .bool out] w fun v w' => v = .agg (encFlow (flowAt N.tab k)).toArray ∧ Turns w w' (rnodeH A N R) (rnodeH A (N.pass k flags out) R) := by
  have hin : 0 ≤ k ∧ k < 32 := by
    unfold MirS.flowErr at hk
    split at hk
    · omega
    · omega
  obtain ⟨c, hc⟩ : ∃ c, N.tab.cells[k.toNat]? = some c := ⟨_, List.getElem?_eq_getElem (by rw [hO.tab.len]; omega)⟩
  have hcf : c.f = flowAt N.tab k := by unfold flowAt; rw [hc]
  refine fn_intro tabOk Tryz.func173 (by kernel_rfl) rfl Tryz.ntmps173 (Nat.le_of_ble_eq_true rfl) ?_
  have hS := hN.start
  (conv => whnf)
  refine hS.new (fun b8 w' hb8 hS => ?_)
  (conv => whnf)
  refine hS.ld 0 rfl rfl ?_
  (conv => whnf)
  refine ldc (refT_l (hS.get 3 rfl)) ?_
  (conv => whnf)
  refine IdxC.mk (by omega) (by omega) ?_
  (conv => whnf)
  have hca := refT_at (hS.get 3 rfl) hc
  refine ⟨encFlow c.f, rfl, by rw [Nat.zero_add]; exact hca.sub 2 rfl, ?_⟩
  clear hca
  (conv => whnf)
  refine hS.new (fun b9 w' hb9 hS => ?_)
  (conv => whnf)
  refine hS.st 8 rfl (Nat.le_of_ble_eq_true rfl) rfl (fun w' hS => ?_)
  replace hS : St w (inF (rnodeH A N R)) w' (rnodeH A N R ++ [blk b8 57 (encFlow noFlow), blk b9 57 (encFlow c.f)]) := hS
  repeat' ((conv => whnf); first | refine RetC.mk ?_ | refine NzC.mk (by decide) ?_ | refine RngC.mk (by omega) (by omega) ?_ | refine IdxC.mk (by omega) (by omega) ?_ | refine hS.ld 0 rfl rfl ?_ | refine hS.ld 1 rfl rfl ?_ | refine hS.ld 2 rfl rfl ?_ | refine hS.ld 3 rfl rfl ?_ | refine hS.ld 4 rfl rfl ?_ | refine hS.ld 5 rfl rfl ?_ | refine hS.ld 6 rfl rfl ?_ | refine hS.ld 7 rfl rfl ?_ | refine hS.ld 8 rfl rfl ?_ | refine hS.laX 0 rfl rfl ?_ | refine hS.laX 1 rfl rfl ?_ | refine hS.laX 2 rfl rfl ?_ | refine hS.laX 3 rfl rfl ?_ | refine hS.laX 4 rfl rfl ?_ | refine hS.laX 5 rfl rfl ?_ | refine hS.laX 6 rfl rfl ?_ | refine hS.laX 7 rfl rfl ?_ | refine hS.laX 8 rfl rfl ?_ | (refine (nextOf_ok c.f.proto c.f.state flags out _).mono ?_; rintro v w3 ⟨rfl, rfl⟩) | refine brD (fun _ => ?_) (fun _ => ?_) | refine brND (fun _ => ?_) (fun _ => ?_) | refine brN (fun _ => ?_) (fun _ => ?_) | refine brI (fun _ => ?_) (fun _ => ?_))
  · rename_i hg
    have hgone : N.pass k flags out = { N with tab := (N.tab.drop k).2 } := by
      unfold NodeS.pass
      rw [← hcf, hg]
    rw [hgone]
    refine (rdrop_ok k (hS.get 3 rfl) hO.tab (by omega)).mono ?_
    rintro v w' ⟨rfl, hx, hT⟩
    replace hS := hS.upd 3 rfl hx (fun d hd => by subst hd; simp [refT]) refT_local hT (fun d hd => .inl hd)
    (conv => whnf)
    refine hS.laX 8 rfl rfl ?_
    (conv => whnf)
    refine hS.st 7 rfl (Nat.le_of_ble_eq_true rfl) rfl (fun w' hS => ?_)
    (conv => whnf)
    refine hS.laX 7 rfl rfl ?_
    repeat' ((conv => whnf); first | refine RetC.mk ?_ | refine NzC.mk (by decide) ?_ | refine RngC.mk (by omega) (by omega) ?_ | refine IdxC.mk (by omega) (by omega) ?_ | refine brD (fun _ => ?_) (fun _ => ?_) | refine brND (fun _ => ?_) (fun _ => ?_) | refine brN (fun _ => ?_) (fun _ => ?_) | refine brI (fun _ => ?_) (fun _ => ?_))
    exact ⟨by rw [← hcf]; rfl, (hS.keep 7).turns⟩
  · rename_i hg
    have hstay : N.pass k flags out = { N with tab := (N.tab.setS k (nextS c.f.proto c.f.state flags out).1 (N.now + timeS c.f.proto (nextS c.f.proto c.f.state flags out).1)).2 } := by
      unfold NodeS.pass
      rw [← hcf, hg]
    rw [hstay]
    have hn1 := St.neF hS 0 3 rfl rfl (by decide) (c := A.tg) (by simp [refT])
    have hn2 := St.neF hS 8 3 rfl rfl (by decide) (c := A.tg) (by simp [refT])
    have htb := timeS_bound c.f.proto (nextS c.f.proto c.f.state flags out).1
    have hn0 := hO.n0
    have hn9 := hO.n1
    (refine drawS tabOk mixed [] (fun b => b = A.tg) [0, 1, 2, 3, 4, 5, 6, 7, 8, 9, 10, 11, 12, 13, 14, 15] (by kernel_rfl) ?_; rintro w1 rfl; replace hS := hS.drew)
    have hK := hS.ref (fun b => b = A.tg)
    repeat' ((conv => whnf); first | refine hS.ldF 0 rfl rfl hn1 ?_ | refine hS.ldF 8 rfl rfl hn2 ?_)
    refine (timeOf_ok _ _ _).mono ?_
    rintro v w3 ⟨rfl, rfl⟩
    refine KeepC.mk hK ?_
    repeat' ((conv => whnf); first | refine RetC.mk ?_ | refine NzC.mk (by decide) ?_ | refine RngC.mk (by omega) (by omega) ?_ | refine IdxC.mk (by omega) (by omega) ?_ | refine brD (fun _ => ?_) (fun _ => ?_) | refine brND (fun _ => ?_) (fun _ => ?_) | refine brN (fun _ => ?_) (fun _ => ?_) | refine brI (fun _ => ?_) (fun _ => ?_))
    refine (rset_ok k _ _ (hS.get 3 rfl) hO.tab (by omega)).mono ?_
    rintro v w' ⟨rfl, hx, hT⟩
    refine KeepC.mk (hK.trans hx) ?_
    replace hS := hS.upd 3 rfl hx (fun d hd => by subst hd; simp [refT]) refT_local hT (fun d hd => .inl hd)
    (conv => whnf)
    refine hS.laX 8 rfl rfl ?_
    (conv => whnf)
    refine hS.st 7 rfl (Nat.le_of_ble_eq_true rfl) rfl (fun w' hS => ?_)
    (conv => whnf)
    refine hS.laX 7 rfl rfl ?_
    repeat' ((conv => whnf); first | refine RetC.mk ?_ | refine NzC.mk (by decide) ?_ | refine RngC.mk (by omega) (by omega) ?_ | refine IdxC.mk (by omega) (by omega) ?_ | refine brD (fun _ => ?_) (fun _ => ?_) | refine brND (fun _ => ?_) (fun _ => ?_) | refine brN (fun _ => ?_) (fun _ => ?_) | refine brI (fun _ => ?_) (fun _ => ?_))
    exact ⟨by rw [← hcf]; rfl, (hS.keep 7).turns⟩
theorem rinside_ok {m : Nat} {G : RuleS → Prop} (p : PktS) (hN : Has w (rnodeH A N R)) (hO : NOk m N) (hm : m + 1 ≤ 40000000) (hr : Slc w 5 encRule G A.ra N.rules.length N.rules) (hsrc : 0 < N.rules.length → ∀ b0 o0, A.ra = some ⟨b0, o0, none⟩ → ¬ inF (rnodeH A N R) b0) :
    CallC Tryz.prog 118 #[.pointer (some ⟨A.n, 0, none⟩), .agg (encPkt p).toArray] w fun v w' => v = .tuple #[.agg (encPkt (N.inside p).2.1).toArray, .int .i64 ((N.inside p).1 : Nat)] ∧ Turns w w' (rnodeH A N R) (rnodeH A (N.inside p).2.2 R) := by
  have hlif : 0 ≤ N.tab.life ∧ N.tab.life ≤ 100000 := by
    have := hO.lif
    have := hO.id
    omega
  have hn0 := hO.n0
  have hn9 := hO.n1
  refine fn_intro tabOk Tryz.func118 (by kernel_rfl) rfl Tryz.ntmps118 (Nat.le_of_ble_eq_true rfl) ?_
  have hS := hN.start
  (conv => whnf)
  refine hS.new (fun bp w' hbp hS => ?_)
  (conv => whnf)
  refine hS.new (fun br w' hbr hS => ?_)
  replace hS : St w (inF (rnodeH A N R)) w' (rnodeH A N R ++ [blk bp 36 (encPkt p), blk br 36 (encPkt noPkt)]) := hS
  (conv => whnf)
  refine hS.laX 7 rfl rfl ?_
  (conv => whnf)
  refine (perror_ok p _).mono ?_
  rintro v w2 ⟨rfl, hx⟩
  replace hS := hS.no hx
  by_cases hp : p.err = 0
  case neg =>
    rw [show N.inside p = (p.err, noPkt, N) from if_pos hp]
    (conv => whnf)
    refine brD (fun _ => ?_) (fun h => absurd (show (p.err : Int) > 0 by omega) h)
    repeat' ((conv => whnf); first | refine RetC.mk ?_ | refine NzC.mk (by decide) ?_ | refine RngC.mk (by omega) (by omega) ?_ | refine IdxC.mk (by omega) (by omega) ?_ | refine hS.st 8 rfl (Nat.le_of_ble_eq_true rfl) rfl (fun w' hS => ?_) | refine hS.laX 8 rfl rfl ?_ | refine brD (fun _ => ?_) (fun _ => ?_) | refine brND (fun _ => ?_) (fun _ => ?_) | refine brN (fun _ => ?_) (fun _ => ?_) | refine brI (fun _ => ?_) (fun _ => ?_))
    exact ⟨rfl, (hS.keep 7).turns⟩
  rw [hp]
  (conv => whnf)
  refine hS.ld 0 rfl rfl ?_
  (conv => whnf)
  refine hS.ld 1 rfl (v := .bool N.role.active) rfl ?_
  cases ha : N.role.active
  · rw [show N.inside p = (9, noPkt, N) by unfold NodeS.inside; rw [if_neg (fun h => h hp), if_pos ha]]
    repeat' ((conv => whnf); first | refine RetC.mk ?_ | refine NzC.mk (by decide) ?_ | refine RngC.mk (by omega) (by omega) ?_ | refine IdxC.mk (by omega) (by omega) ?_ | refine hS.st 8 rfl (Nat.le_of_ble_eq_true rfl) rfl (fun w' hS => ?_) | refine hS.laX 8 rfl rfl ?_ | refine brD (fun _ => ?_) (fun _ => ?_) | refine brND (fun _ => ?_) (fun _ => ?_) | refine brN (fun _ => ?_) (fun _ => ?_) | refine brI (fun _ => ?_) (fun _ => ?_))
    exact ⟨rfl, (hS.keep 7).turns⟩
  (conv => whnf)
  (refine drawS tabOk mixed [] No [0, 1, 2, 3, 4, 5, 6, 7, 8, 9, 10, 11] (by kernel_rfl) ?_; rintro w1 rfl; replace hS := hS.drew)
  repeat' ((conv => whnf); first | refine hS.laXF 7 rfl rfl id ?_ | refine hS.ldF 7 rfl rfl id ?_ | refine hS.ldF 0 rfl rfl id ?_)
  refine (rfind_ok _ _ _ _ _ (hS.get 3 rfl)).mono ?_
  rintro v w4 ⟨rfl, hx⟩
  replace hS := hS.no hx
  refine KeepC.mk hx ?_
  (conv => whnf)
  refine hS.new (fun bf w' hbf hS => ?_)
  replace hS : St w (inF (rnodeH A N R)) w' (rnodeH A N R ++ [blk bp 36 (encPkt p), blk br 36 (encPkt noPkt), blk bf 57 (encFlow noFlow)]) := hS
  (conv => whnf)
  refine brD (fun hf => ?_) (fun hf => ?_)
  · rw [show N.inside p = (0, ⟨p.proto, 1, (flowAt N.tab (N.tab.find p.proto p.sa p.sp p.da p.dp)).port, p.da, p.dp, p.flags⟩, N.pass (N.tab.find p.proto p.sa p.sp p.da p.dp) p.flags true) by
      unfold NodeS.inside
      rw [if_neg (fun h => h hp), if_neg (by rw [ha]; decide), if_pos hf]]
    have herr := (flowErr_find hO.tab.len (fitF p.proto p.sa p.sp p.da p.dp) hf).1
    (conv => whnf)
    refine hS.ld 7 rfl rfl ?_
    (conv => whnf)
    refine (rpass_ok _ p.flags true hS.has.left hO (by omega) herr).mono ?_
    rintro v w5 ⟨rfl, ht⟩
    replace hS := St.call hS ht
    (conv => whnf)
    refine hS.st 9 rfl (Nat.le_of_ble_eq_true rfl) rfl (fun w' hS => ?_)
    (conv => whnf)
    refine hS.ld 9 rfl rfl ?_
    (conv => whnf)
    refine hS.st 7 rfl (Nat.le_of_ble_eq_true rfl) rfl (fun w' hS => ?_)
    (conv => whnf)
    refine hS.laX 7 rfl rfl ?_
    (conv => whnf)
    refine hS.st 8 rfl (Nat.le_of_ble_eq_true rfl) rfl (fun w' hS => ?_)
    (conv => whnf)
    refine hS.laX 8 rfl rfl ?_
    repeat' ((conv => whnf); first | refine RetC.mk ?_ | refine NzC.mk (by decide) ?_ | refine RngC.mk (by omega) (by omega) ?_ | refine IdxC.mk (by omega) (by omega) ?_ | refine brD (fun _ => ?_) (fun _ => ?_) | refine brND (fun _ => ?_) (fun _ => ?_) | refine brN (fun _ => ?_) (fun _ => ?_) | refine brI (fun _ => ?_) (fun _ => ?_))
    exact ⟨rfl, (hS.keep 7).turns⟩
  have hI : N.inside p = if (N.begin p).1.2 ≠ 0 then ((N.begin p).1.2, noPkt, (N.begin p).2) else (0, ⟨p.proto, 1, (flowAt (N.begin p).2.tab (N.begin p).1.1).port, p.da, p.dp, p.flags⟩, (N.begin p).2) := by
    unfold NodeS.inside
    rw [if_neg (fun h => h hp), if_neg (by rw [ha]; decide), if_neg hf]
  rw [hI]
  clear hI
  (conv => whnf)
  (refine drawS tabOk mixed [] No [0, 1, 2, 3, 4, 5, 6, 7, 8, 9, 10] (by kernel_rfl) ?_; rintro w1 rfl; replace hS := hS.drew)
  repeat' ((conv => whnf); first | refine hS.laXF 7 rfl rfl id ?_ | refine hS.ldF 7 rfl rfl id ?_ | refine hS.ldF 0 rfl rfl id ?_)
  refine (admitsOf_ok (hr.extN hS.ext hsrc) p.proto p.dp true).mono ?_
  rintro v w5 ⟨rfl, hx⟩
  replace hS := hS.no hx
  refine KeepC.mk hx ?_
  cases hA : admitsL p.proto p.dp true N.rules
  · rw [show N.begin p = ((0, 8), N) from if_pos hA]
    repeat' ((conv => whnf); first | refine RetC.mk ?_ | refine NzC.mk (by decide) ?_ | refine RngC.mk (by omega) (by omega) ?_ | refine IdxC.mk (by omega) (by omega) ?_ | refine hS.st 8 rfl (Nat.le_of_ble_eq_true rfl) rfl (fun w' hS => ?_) | refine hS.laX 8 rfl rfl ?_ | refine brD (fun _ => ?_) (fun _ => ?_) | refine brND (fun _ => ?_) (fun _ => ?_) | refine brN (fun _ => ?_) (fun _ => ?_) | refine brI (fun _ => ?_) (fun _ => ?_))
    exact ⟨rfl, (hS.keep 7).turns⟩
  have hO2 := hO.begin p
  have hin := begin_in hO p
  have hb : N.begin p = _ := if_neg (by rw [hA]; decide)
  rw [hb] at hO2 hin ⊢
  clear hb
  (conv => whnf)
  refine hS.ld 7 rfl rfl ?_
  (conv => whnf)
  refine hS.ld 7 rfl rfl ?_
  (conv => whnf)
  refine (beginOf_ok _ _ _).mono ?_
  rintro v w6 ⟨rfl, rfl⟩
  generalize beginS p.proto p.flags = r at hO2 hin ⊢
  obtain ⟨s, kk⟩ := r
  by_cases hkk : kk = 0
  case neg =>
    rw [if_pos (show ((s, kk) : Int × Nat).2 ≠ 0 from hkk), if_pos (show (((0, ((s, kk) : Int × Nat).2), N) : (Int × Nat) × NodeS).1.2 ≠ 0 from hkk)]
    (conv => whnf)
    refine brD (fun _ => ?_) (fun h => absurd (show (kk : Int) > 0 by omega) h)
    repeat' ((conv => whnf); first | refine RetC.mk ?_ | refine NzC.mk (by decide) ?_ | refine RngC.mk (by omega) (by omega) ?_ | refine IdxC.mk (by omega) (by omega) ?_ | refine hS.st 8 rfl (Nat.le_of_ble_eq_true rfl) rfl (fun w' hS => ?_) | refine hS.laX 8 rfl rfl ?_ | refine brD (fun _ => ?_) (fun _ => ?_) | refine brND (fun _ => ?_) (fun _ => ?_) | refine brN (fun _ => ?_) (fun _ => ?_) | refine brI (fun _ => ?_) (fun _ => ?_))
    exact ⟨rfl, (hS.keep 7).turns⟩
  subst hkk
  rw [if_neg (show ¬ ((s, 0) : Int × Nat).2 ≠ 0 by simp)] at hO2 hin ⊢
  dsimp only at hO2 hin ⊢
  have htb := timeS_bound p.proto s
  have hn1 := St.neF hS 0 3 rfl rfl (by decide) (c := A.tg) (by simp [refT])
  have hn2 := St.neF hS 7 3 rfl rfl (by decide) (c := A.tg) (by simp [refT])
  (conv => whnf)
  (refine drawS tabOk mixed [] (fun b => b = A.tg) [0, 1, 2, 3, 4, 5, 6, 7, 8, 9, 10, 11, 12, 13, 14, 15, 16, 17, 18, 19, 20, 21, 22, 23, 24, 25] (by kernel_rfl) ?_; rintro w1 rfl; replace hS := hS.drew)
  have hK := hS.ref (fun b => b = A.tg)
  repeat' ((conv => whnf); first | refine hS.laXF 7 rfl rfl hn2 ?_ | refine hS.ldF 7 rfl rfl hn2 ?_ | refine hS.ldF 0 rfl rfl hn1 ?_)
  refine (timeOf_ok _ _ _).mono ?_
  rintro v w3 ⟨rfl, rfl⟩
  refine KeepC.mk hK ?_
  repeat' ((conv => whnf); first | refine RetC.mk ?_ | refine NzC.mk (by decide) ?_ | refine RngC.mk (by omega) (by omega) ?_ | refine IdxC.mk (by omega) (by omega) ?_ | refine brD (fun _ => ?_) (fun _ => ?_) | refine brND (fun _ => ?_) (fun _ => ?_) | refine brN (fun _ => ?_) (fun _ => ?_) | refine brI (fun _ => ?_) (fun _ => ?_))
  refine (radd_ok _ _ _ _ _ _ _ (hS.get 3 rfl) hO.tab (by omega) hlif).mono ?_
  rintro v w' ⟨rfl, hx, hT⟩
  refine KeepC.mk (hK.trans hx) ?_
  replace hS := hS.upd 3 rfl hx (fun d hd => by subst hd; simp [refT]) refT_local hT (fun d hd => .inl hd)
  clear hT hx hK
  generalize N.tab.add p.proto p.sa p.sp p.da p.dp s (N.now + timeS p.proto s) = r at hS hO2 hin ⊢
  obtain ⟨⟨k, kk⟩, T2⟩ := r
  by_cases hkk : kk = 0
  case neg =>
    rw [if_pos hkk]
    (conv => whnf)
    refine brD (fun _ => ?_) (fun h => absurd (show (kk : Int) > 0 by omega) h)
    repeat' ((conv => whnf); first | refine RetC.mk ?_ | refine NzC.mk (by decide) ?_ | refine RngC.mk (by omega) (by omega) ?_ | refine IdxC.mk (by omega) (by omega) ?_ | refine hS.st 8 rfl (Nat.le_of_ble_eq_true rfl) rfl (fun w' hS => ?_) | refine hS.laX 8 rfl rfl ?_ | refine brD (fun _ => ?_) (fun _ => ?_) | refine brND (fun _ => ?_) (fun _ => ?_) | refine brN (fun _ => ?_) (fun _ => ?_) | refine brI (fun _ => ?_) (fun _ => ?_))
    exact ⟨rfl, (hS.keep 7).turns⟩
  subst hkk
  obtain ⟨h0, h1⟩ := hin rfl
  dsimp only at hS hO2 h0 h1
  obtain ⟨c, hc, hcf⟩ := flowAt_in hO2 k h0 h1
  rw [if_neg (by simp)]
  dsimp only at hc hcf ⊢
  rw [← hcf]
  (conv => whnf)
  refine hS.ld 0 rfl rfl ?_
  (conv => whnf)
  refine ldc (refT_l (hS.get 3 rfl)) ?_
  (conv => whnf)
  refine IdxC.mk (by omega) (by omega) ?_
  (conv => whnf)
  have hca := refT_at (hS.get 3 rfl) hc
  refine ⟨encFlow c.f, rfl, by rw [Nat.zero_add]; exact hca.sub 2 rfl, ?_⟩
  clear hca
  (conv => whnf)
  refine hS.st 9 rfl (Nat.le_of_ble_eq_true rfl) rfl (fun w' hS => ?_)
  (conv => whnf)
  refine hS.ld 9 rfl rfl ?_
  (conv => whnf)
  refine hS.st 7 rfl (Nat.le_of_ble_eq_true rfl) rfl (fun w' hS => ?_)
  (conv => whnf)
  refine hS.laX 7 rfl rfl ?_
  (conv => whnf)
  refine hS.st 8 rfl (Nat.le_of_ble_eq_true rfl) rfl (fun w' hS => ?_)
  (conv => whnf)
  refine hS.laX 8 rfl rfl ?_
  repeat' ((conv => whnf); first | refine RetC.mk ?_ | refine NzC.mk (by decide) ?_ | refine RngC.mk (by omega) (by omega) ?_ | refine IdxC.mk (by omega) (by omega) ?_ | refine brD (fun _ => ?_) (fun _ => ?_) | refine brND (fun _ => ?_) (fun _ => ?_) | refine brN (fun _ => ?_) (fun _ => ?_) | refine brI (fun _ => ?_) (fun _ => ?_))
  exact ⟨rfl, (hS.keep 7).turns⟩
theorem routside_ok {m : Nat} (p : PktS) (hN : Has w (rnodeH A N R)) (hO : NOk m N) (hm : m + 1 ≤ 40000000) :
    CallC Tryz.prog 119 #[.pointer (some ⟨A.n, 0, none⟩), .agg (encPkt p).toArray] w fun v w' => v = .tuple #[.agg (encPkt (N.outside p).2.1).toArray, .int .i64 ((N.outside p).1 : Nat)] ∧ Turns w w' (rnodeH A N R) (rnodeH A (N.outside p).2.2 R) := by
  refine fn_intro tabOk Tryz.func119 (by kernel_rfl) rfl Tryz.ntmps119 (Nat.le_of_ble_eq_true rfl) ?_
  have hS := hN.start
  (conv => whnf)
  refine hS.new (fun bp w' hbp hS => ?_)
  (conv => whnf)
  refine hS.new (fun br w' hbr hS => ?_)
  replace hS : St w (inF (rnodeH A N R)) w' (rnodeH A N R ++ [blk bp 36 (encPkt p), blk br 36 (encPkt noPkt)]) := hS
  (conv => whnf)
  refine hS.laX 7 rfl rfl ?_
  (conv => whnf)
  refine (perror_ok p _).mono ?_
  rintro v w2 ⟨rfl, hx⟩
  replace hS := hS.no hx
  by_cases hp : p.err = 0
  case neg =>
    rw [show N.outside p = (p.err, noPkt, N) from if_pos hp]
    (conv => whnf)
    refine brD (fun _ => ?_) (fun h => absurd (show (p.err : Int) > 0 by omega) h)
    repeat' ((conv => whnf); first | refine RetC.mk ?_ | refine NzC.mk (by decide) ?_ | refine RngC.mk (by omega) (by omega) ?_ | refine IdxC.mk (by omega) (by omega) ?_ | refine hS.st 8 rfl (Nat.le_of_ble_eq_true rfl) rfl (fun w' hS => ?_) | refine hS.laX 8 rfl rfl ?_ | refine brD (fun _ => ?_) (fun _ => ?_) | refine brND (fun _ => ?_) (fun _ => ?_) | refine brN (fun _ => ?_) (fun _ => ?_) | refine brI (fun _ => ?_) (fun _ => ?_))
    exact ⟨rfl, (hS.keep 7).turns⟩
  rw [hp]
  (conv => whnf)
  refine hS.ld 0 rfl rfl ?_
  (conv => whnf)
  refine hS.ld 1 rfl (v := .bool N.role.active) rfl ?_
  cases ha : N.role.active
  · rw [show N.outside p = (9, noPkt, N) by unfold NodeS.outside; rw [if_neg (fun h => h hp), if_pos ha]]
    repeat' ((conv => whnf); first | refine RetC.mk ?_ | refine NzC.mk (by decide) ?_ | refine RngC.mk (by omega) (by omega) ?_ | refine IdxC.mk (by omega) (by omega) ?_ | refine hS.st 8 rfl (Nat.le_of_ble_eq_true rfl) rfl (fun w' hS => ?_) | refine hS.laX 8 rfl rfl ?_ | refine brD (fun _ => ?_) (fun _ => ?_) | refine brND (fun _ => ?_) (fun _ => ?_) | refine brN (fun _ => ?_) (fun _ => ?_) | refine brI (fun _ => ?_) (fun _ => ?_))
    exact ⟨rfl, (hS.keep 7).turns⟩
  (conv => whnf)
  refine hS.ld 7 rfl rfl ?_
  (conv => whnf)
  refine brND (fun hd => ?_) (fun hd => ?_)
  · rw [show N.outside p = (3, noPkt, N) by unfold NodeS.outside; rw [if_neg (fun h => h hp), if_neg (by rw [ha]; decide), if_pos hd]]
    repeat' ((conv => whnf); first | refine RetC.mk ?_ | refine NzC.mk (by decide) ?_ | refine RngC.mk (by omega) (by omega) ?_ | refine IdxC.mk (by omega) (by omega) ?_ | refine hS.st 8 rfl (Nat.le_of_ble_eq_true rfl) rfl (fun w' hS => ?_) | refine hS.laX 8 rfl rfl ?_ | refine brD (fun _ => ?_) (fun _ => ?_) | refine brND (fun _ => ?_) (fun _ => ?_) | refine brN (fun _ => ?_) (fun _ => ?_) | refine brI (fun _ => ?_) (fun _ => ?_))
    exact ⟨rfl, (hS.keep 7).turns⟩
  (conv => whnf)
  (refine drawS tabOk mixed [] No [0, 1, 2, 3, 4, 5, 6, 7, 8, 9, 10, 11, 12] (by kernel_rfl) ?_; rintro w1 rfl; replace hS := hS.drew)
  repeat' ((conv => whnf); first | refine hS.laXF 7 rfl rfl id ?_ | refine hS.ldF 7 rfl rfl id ?_ | refine hS.ldF 0 rfl rfl id ?_)
  refine (rback_ok _ _ _ _ (hS.get 3 rfl)).mono ?_
  rintro v w4 ⟨rfl, hx⟩
  replace hS := hS.no hx
  refine KeepC.mk hx ?_
  (conv => whnf)
  refine brD (fun hf => ?_) (fun hf => ?_)
  · rw [show N.outside p = (4, noPkt, N) by unfold NodeS.outside; rw [if_neg (fun h => h hp), if_neg (by rw [ha]; decide), if_neg (fun h => h hd), if_pos hf]]
    repeat' ((conv => whnf); first | refine RetC.mk ?_ | refine NzC.mk (by decide) ?_ | refine RngC.mk (by omega) (by omega) ?_ | refine IdxC.mk (by omega) (by omega) ?_ | refine hS.st 8 rfl (Nat.le_of_ble_eq_true rfl) rfl (fun w' hS => ?_) | refine hS.laX 8 rfl rfl ?_ | refine brD (fun _ => ?_) (fun _ => ?_) | refine brND (fun _ => ?_) (fun _ => ?_) | refine brN (fun _ => ?_) (fun _ => ?_) | refine brI (fun _ => ?_) (fun _ => ?_))
    exact ⟨rfl, (hS.keep 7).turns⟩
  rw [show N.outside p = (0, ⟨p.proto, p.sa, p.sp, (flowAt N.tab (N.tab.back p.proto p.dp p.sa p.sp)).ia, (flowAt N.tab (N.tab.back p.proto p.dp p.sa p.sp)).ip, p.flags⟩, N.pass (N.tab.back p.proto p.dp p.sa p.sp) p.flags false) by
    unfold NodeS.outside
    rw [if_neg (fun h => h hp), if_neg (by rw [ha]; decide), if_neg (fun h => h hd), if_neg hf]]
  have herr := (flowErr_find hO.tab.len (fitB p.proto p.dp p.sa p.sp) (Int.not_lt.1 hf)).1
  (conv => whnf)
  refine hS.ld 7 rfl rfl ?_
  (conv => whnf)
  refine (rpass_ok _ p.flags false hS.has.left hO (by omega) herr).mono ?_
  rintro v w5 ⟨rfl, ht⟩
  replace hS := St.call hS ht
  (conv => whnf)
  refine hS.st 7 rfl (Nat.le_of_ble_eq_true rfl) rfl (fun w' hS => ?_)
  (conv => whnf)
  refine hS.laX 7 rfl rfl ?_
  (conv => whnf)
  refine hS.st 8 rfl (Nat.le_of_ble_eq_true rfl) rfl (fun w' hS => ?_)
  (conv => whnf)
  refine hS.laX 8 rfl rfl ?_
  repeat' ((conv => whnf); first | refine RetC.mk ?_ | refine NzC.mk (by decide) ?_ | refine RngC.mk (by omega) (by omega) ?_ | refine IdxC.mk (by omega) (by omega) ?_ | refine brD (fun _ => ?_) (fun _ => ?_) | refine brND (fun _ => ?_) (fun _ => ?_) | refine brN (fun _ => ?_) (fun _ => ?_) | refine brI (fun _ => ?_) (fun _ => ?_))
  exact ⟨rfl, (hS.keep 7).turns⟩
end
end Go.Proofs.YtoaghhcjlfiflaaGreatDoor

namespace Go.Proofs.YtoaghhcjlfiflaaGreatDoor
open Go Ev

section
variable {w : World} {b : Nat} {r : RoleS}

theorem ref_tick (hb : Blk w b 178 (encRole r)) (hr : r.Ok) : CallC Tryz.prog 164 #[.pointer (some ⟨b, 0, none⟩)] w fun v w' => v = .bool r.tick.1 ∧ Ext (· = b) w w' ∧ Blk w' b 178 (encRole r.tick.2) := by
  have h1 := hr.s1
  have h0 := hr.s0
  refine fn_intro tabOk Tryz.func164 (by kernel_rfl) rfl Tryz.ntmps164 (Nat.le_of_ble_eq_true rfl) ?_
  have hS := (St.start w (· = b)).add (blk_local b _ _) hb (by simp [blk]; exact hb.lt) (by simp)
  (conv => whnf)
  refine hS.ld 0 rfl rfl ?_
  (conv => whnf)
  refine brI (fun ha => ?_) (fun ha => ?_)
  · repeat' ((conv => whnf); first | refine RetC.mk ?_ | refine NzC.mk (by decide) ?_ | refine RngC.mk (by omega) (by omega) ?_ | refine IdxC.mk (by omega) (by omega) ?_ | refine brD (fun _ => ?_) (fun _ => ?_) | refine brND (fun _ => ?_) (fun _ => ?_) | refine brN (fun _ => ?_) (fun _ => ?_) | refine brI (fun _ => ?_) (fun _ => ?_))
    have e : r.tick = (false, r) := by simp [RoleS.tick, ha]
    rw [e]
    exact ⟨rfl, hS.ext, hS.blk 0 rfl⟩
  · repeat' ((conv => whnf); first | refine RetC.mk ?_ | refine NzC.mk (by decide) ?_ | refine RngC.mk (by omega) (by omega) ?_ | refine IdxC.mk (by omega) (by omega) ?_ | refine hS.ld 0 rfl rfl ?_ | refine hS.st 0 rfl (Nat.le_of_ble_eq_true rfl) rfl (fun w' hS => ?_) | refine brD (fun _ => ?_) (fun _ => ?_) | refine brND (fun _ => ?_) (fun _ => ?_) | refine brN (fun _ => ?_) (fun _ => ?_) | refine brI (fun _ => ?_) (fun _ => ?_))
    have e : r.tick = (decide (r.silence + 1 > 9), { r with silence := r.silence + 1 }) := by simp [RoleS.tick, ha]
    rw [e]
    exact ⟨rfl, hS.ext, hS.blk 0 rfl⟩

theorem ref_next (hb : Blk w b 178 (encRole r)) (hr : r.Ok) : CallC Tryz.prog 165 #[.pointer (some ⟨b, 0, none⟩)] w fun v w' => v = .tuple #[.int .i64 r.next.1, .int .i64 r.next.2] ∧ w = w' := by
  have h1 := hr.e1
  have h0 := hr.e0
  have hn := hr.n0
  have e0 : w.cell? ⟨b, 0 + 0, none⟩ = some (.int .i64 r.node) := hb.cell _
  have e1 : w.cell? ⟨b, 0 + 1, none⟩ = some (.int .i64 r.epoch) := hb.cell _
  refine fn_intro tabOk Tryz.func165 (by kernel_rfl) rfl Tryz.ntmps165 (Nat.le_of_ble_eq_true rfl) ?_
  (conv => whnf)
  refine ⟨_, e1, ?_⟩
  (conv => whnf)
  refine RngC.mk (by omega) (by omega) ?_
  (conv => whnf)
  refine loopR tabOk (fun σ w' n => ∃ e, σ = [(4, .int .i64 e), (0, .pointer (some ⟨b, 0, none⟩))] ∧ w = w' ∧ ((e = r.epoch + 1 ∧ n = 1) ∨ (e = r.epoch + 1 + 1 ∧ n = 0 ∧ (r.epoch + 1).tmod 2 ≠ r.node)))
    (σ' := [(4, .int .i64 (r.epoch + 1)), (0, .pointer (some ⟨b, 0, none⟩))]) (n := 1) ⟨rfl, rfl, trivial⟩ ⟨_, rfl, rfl, .inl ⟨rfl, rfl⟩⟩ ?_
  rintro _ w1 n ⟨e, rfl, rfl, he⟩
  (conv => whnf)
  refine NzC.mk (by decide) ?_
  (conv => whnf)
  refine ⟨_, e0, ?_⟩
  (conv => whnf)
  refine brND (fun h3 => ?_) (fun h3 => ?_)
  · rcases he with ⟨rfl, rfl⟩ | ⟨rfl, rfl, h4⟩
    · (conv => whnf)
      refine RngC.mk (by omega) (by omega) ?_
      (conv => whnf)
      exact LoopE.mk ⟨_, [(4, .int .i64 _), (0, _)], Nat.zero_lt_one, ⟨rfl, rfl, trivial⟩, ⟨_, rfl, rfl, .inr ⟨rfl, rfl, h3⟩⟩⟩
    · exfalso
      rw [tmod2 (by omega)] at h3 h4
      omega
  · have hnx : r.next = if e > 1073741824 then (0, 2) else (e, 0) := by
      unfold RoleS.next
      dsimp only
      rcases he with ⟨rfl, rfl⟩ | ⟨rfl, rfl, h4⟩
      · have e2 : (if (r.epoch + 1).tmod 2 ≠ r.node then r.epoch + 1 + 1 else r.epoch + 1) = r.epoch + 1 := if_neg (fun h => h h3)
        rw [e2]
      · have e2 : (if (r.epoch + 1).tmod 2 ≠ r.node then r.epoch + 1 + 1 else r.epoch + 1) = r.epoch + 1 + 1 := if_pos h4
        rw [e2]
    rw [hnx]
    (conv => whnf)
    refine brD (fun h5 => ?_) (fun h5 => ?_)
    · repeat' ((conv => whnf); first | refine RetC.mk ?_ | refine NzC.mk (by decide) ?_ | refine RngC.mk (by omega) (by omega) ?_ | refine IdxC.mk (by omega) (by omega) ?_ | refine brD (fun _ => ?_) (fun _ => ?_) | refine brND (fun _ => ?_) (fun _ => ?_) | refine brN (fun _ => ?_) (fun _ => ?_) | refine brI (fun _ => ?_) (fun _ => ?_))
      rw [if_pos h5]
      exact ⟨rfl, rfl⟩
    · repeat' ((conv => whnf); first | refine RetC.mk ?_ | refine NzC.mk (by decide) ?_ | refine RngC.mk (by omega) (by omega) ?_ | refine IdxC.mk (by omega) (by omega) ?_ | refine brD (fun _ => ?_) (fun _ => ?_) | refine brND (fun _ => ?_) (fun _ => ?_) | refine brN (fun _ => ?_) (fun _ => ?_) | refine brI (fun _ => ?_) (fun _ => ?_))
      rw [if_neg h5]
      exact ⟨rfl, rfl⟩

theorem ref_claim (e : Int) (hb : Blk w b 178 (encRole r)) (hr : r.Ok) :
    CallC Tryz.prog 166 #[.pointer (some ⟨b, 0, none⟩), .int .i64 e] w fun v w' => v = .int .i64 (r.claim e).1 ∧ Ext (· = b) w w' ∧ Blk w' b 178 (encRole (r.claim e).2) := by
  refine fn_intro tabOk Tryz.func166 (by kernel_rfl) rfl Tryz.ntmps166 (Nat.le_of_ble_eq_true rfl) ?_
  have hS := (St.start w (· = b)).add (blk_local b _ _) hb (by simp [blk]; exact hb.lt) (by simp)
  (conv => whnf)
  refine hS.ld 0 rfl rfl ?_
  (conv => whnf)
  refine brI (fun ha => ?_) (fun ha => ?_)
  · repeat' ((conv => whnf); first | refine RetC.mk ?_ | refine NzC.mk (by decide) ?_ | refine RngC.mk (by omega) (by omega) ?_ | refine IdxC.mk (by omega) (by omega) ?_ | refine brD (fun _ => ?_) (fun _ => ?_) | refine brND (fun _ => ?_) (fun _ => ?_) | refine brN (fun _ => ?_) (fun _ => ?_) | refine brI (fun _ => ?_) (fun _ => ?_))
    rw [show r.claim e = (11, r) by simp [RoleS.claim, ha]]
    exact ⟨rfl, hS.ext, hS.blk 0 rfl⟩
  · (conv => whnf)
    refine (ref_next hb hr).mono ?_
    rintro v w' ⟨rfl, rfl⟩
    repeat' ((conv => whnf); first | refine RetC.mk ?_ | refine NzC.mk (by decide) ?_ | refine RngC.mk (by omega) (by omega) ?_ | refine IdxC.mk (by omega) (by omega) ?_ | refine hS.ld 0 rfl rfl ?_ | refine hS.st 0 rfl (Nat.le_of_ble_eq_true rfl) rfl (fun w' hS => ?_) | refine brD (fun _ => ?_) (fun _ => ?_) | refine brND (fun _ => ?_) (fun _ => ?_) | refine brN (fun _ => ?_) (fun _ => ?_) | refine brI (fun _ => ?_) (fun _ => ?_))
    all_goals have hB := hS.blk 0 rfl
    all_goals refine ⟨?_, hS.ext, hB.to ?_⟩
    all_goals clear hB hS hb
    all_goals unfold RoleS.claim; (try dsimp only [encRole])
    all_goals ((repeat' split) <;> first | rfl | (exfalso; omega) | (simp_all [over, cellsL]; done) | (simp_all [over, cellsL]; omega) | trace_state)
end

end Go.Proofs.YtoaghhcjlfiflaaGreatDoor

namespace Go.Proofs.YtoaghhcjlfiflaaGreatDoor
open Go Ev
def rnoteH (a : Option Addr) (c : Nat) (x : Option Addr) (y : Nat) (l : List NoteS) : List Ent := [ownL 134 5 encNV (.slice a (l.map (noteV x y)).length c) (l.map (noteV x y)), ownL 59 10 encCell (.slice x (cellsOfN l).length y) (cellsOfN l)]
section
variable {w : World} {A : RNodeA} {N : NodeS} {R : RBy} {B : BytS}
theorem rtick_ok {m j : Nat} (hN : Has w (rnodeH A N R)) (hO : NOk m N) (hB : BOk B) (hA : Alike R B) (hR : ROk R j) (hj : j ≤ 50000000) (hm : m + 34 ≤ 40000000) :
    CallC Tryz.prog 114 #[.pointer (some ⟨A.n, 0, none⟩)] w fun v w' => ∃ a c x y R', v = .tuple #[.slice a ((N.tick B).2.1.map (noteV x y)).length c, .int .i64 ((N.tick B).1 : Nat)] ∧ Alike R' (N.tick B).2.2.2 ∧ ROk R' (j + 18) ∧ Turns w w' (rnodeH A N R) (rnodeH A (N.tick B).2.2.1 R' ++ rnoteH a c x y (N.tick B).2.1) := by
  have hn0 := hO.n0
  have hR2 : ROk R (j + 18) := ⟨hR.len, hR.bnd, by have := hR.lo; omega, hR.hi⟩
  have hA2 := hA
  refine fn_intro tabOk Tryz.func114 (by kernel_rfl) rfl Tryz.ntmps114 (Nat.le_of_ble_eq_true rfl) ?_
  have hS := hN.start
  (conv => whnf)
  refine hS.ld 0 rfl rfl ?_
  (conv => whnf)
  refine brD (fun hn => ?_) (fun hn => ?_)
  · rw [show N.tick B = (2, [], N, B) from if_pos hn]
    repeat' ((conv => whnf); first | refine RetC.mk ?_ | refine NzC.mk (by decide) ?_ | refine RngC.mk (by omega) (by omega) ?_ | refine IdxC.mk (by omega) (by omega) ?_ | refine brD (fun _ => ?_) (fun _ => ?_) | refine brND (fun _ => ?_) (fun _ => ?_) | refine brN (fun _ => ?_) (fun _ => ?_) | refine brI (fun _ => ?_) (fun _ => ?_))
    exact ⟨none, 0, none, 0, R, rfl, hA2, hR2, St.turns ((hS.addNil 134 5 encNV).addNil 59 10 encCell)⟩
  (conv => whnf)
  refine hS.ld 0 rfl rfl ?_
  (conv => whnf)
  refine RngC.mk (by omega) (by omega) ?_
  (conv => whnf)
  refine hS.st 0 rfl (Nat.le_of_ble_eq_true rfl) rfl (fun w' hS => ?_)
  replace hS : St w (inF (rnodeH A N R)) w' (rnodeH A { N with now := N.now + 1 } R) := hS
  have hn3 := St.neF hS 0 3 rfl rfl (by decide) (c := A.t) (by simp [refT])
  have hn4 := St.neF hS 0 3 rfl rfl (by decide) (c := A.tg) (by simp [refT])
  (conv => whnf)
  (refine drawS tabOk mixed [] (fun b => b = A.t ∨ b = A.tg) [0, 1, 2, 3, 4, 5, 6, 7, 8] (by kernel_rfl) ?_; rintro w1 rfl; replace hS := hS.drew)
  repeat' ((conv => whnf); first | refine hS.ldF 0 rfl rfl (fun h => h.elim hn3 hn4) ?_)
  refine (rexpire_ok (N.now + 1) (hS.get 3 rfl) hO.tab (by omega)).mono ?_
  rintro v w' ⟨⟨a', c', rfl⟩, hx, hT, _, _⟩
  refine KeepC.mk hx ?_
  replace hS := hS.upd 3 rfl hx (fun d hd => by simpa [refT] using hd) refT_local hT (fun d hd => .inl hd)
  clear hx hT
  (conv => whnf)
  refine hS.ld 0 rfl rfl ?_
  (conv => whnf)
  refine (ref_tick (hS.blk 1 rfl) hO.role).mono ?_
  rintro v w' ⟨rfl, hx, hB1⟩
  replace hS := hS.upd 1 rfl hx (fun c hc => by subst hc; exact List.mem_singleton.2 rfl) (blk_local _ _ _) hB1 (fun c hc => .inl hc)
  clear hx hB1
  replace hS : St w (inF (rnodeH A N R)) w' (rnodeH A N.step.2 R) := hS
  have hO1 := hO.step (by omega) (by omega)
  cases hs : N.role.tick.1
  · have hO2 := hO1
    rw [show N.tick B = (0, (N.step.2.notes false).1, (N.step.2.notes false).2, B) by
      unfold NodeS.tick
      rw [if_neg hn, if_neg (by rw [show N.step.1 = N.role.tick.1 from rfl, hs]; decide)]]
    generalize N.step.2 = N2 at hS hO2 ⊢
    (conv => whnf)
    refine hS.ld 0 rfl rfl ?_
    (conv => whnf)
    refine hS.ld 1 rfl (v := .bool (N2).role.active) rfl ?_
    replace hS := hS.addNil 134 5 encNV
    cases hact : (N2).role.active
    · have hbt : (N2).beat = false := by
        unfold NodeS.beat
        rw [hact]
        rfl
      repeat' ((conv => whnf); first | refine RetC.mk ?_ | refine NzC.mk (by decide) ?_ | refine RngC.mk (by omega) (by omega) ?_ | refine IdxC.mk (by omega) (by omega) ?_ | refine brD (fun _ => ?_) (fun _ => ?_) | refine brND (fun _ => ?_) (fun _ => ?_) | refine brN (fun _ => ?_) (fun _ => ?_) | refine brI (fun _ => ?_) (fun _ => ?_))
      rw [notes_ff hbt]
      exact ⟨none, 0, none, 0, (R), rfl, hA2, hR2, St.turns (hS.addNil 59 10 encCell)⟩
    · skip
      (conv => whnf)
      refine hS.ld 0 rfl rfl ?_
      (conv => whnf)
      refine NzC.mk (by decide) ?_
      (conv => whnf)
      refine brD (fun hz => ?_) (fun hz => ?_)
      · have hbt : (N2).beat = true := by
          unfold NodeS.beat
          rw [hact, decide_eq_true hz]
          rfl
        (conv => whnf)
        (refine drawS tabOk mixed [] No [0, 1, 2, 3, 4, 5, 6, 7, 8, 9, 10, 11, 12, 13, 14, 15, 16, 17, 18, 19, 20, 21, 22] (by kernel_rfl) ?_; rintro w1 rfl; replace hS := hS.drew)
        have hK := hS.ref No
        repeat' ((conv => whnf); first | refine hS.ldF 0 rfl rfl id ?_ | refine hS.ldF 2 rfl rfl id ?_ | refine hS.ldF 1 rfl rfl id ?_)
        refine hS.litX Tryz.underlying79 (sz := 5) (by kernel_rfl) (z := .agg (encNV noNV).toArray) (by kernel_rfl) rfl rfl (cs := encNV ⟨(N2).id, (N2).cell.li, (N2).role.epoch, true, none, 0, 0⟩) (by rfl) (fun b9 w3 hb9 hx hS => ?_)
        replace hK := hK.trans hx
        refine KeepC.mk hK ?_
        clear hx
        (conv => whnf)
        refine hS.appX codNote 7 (ys := [⟨(N2).id, (N2).cell.li, (N2).role.epoch, true, none, 0, 0⟩]) (G := fun _ => True) Tryz.underlying79 (bytes := 56) (by kernel_rfl) (z := .agg (encNV noNV).toArray) (by kernel_rfl) rfl rfl (Slc.of_blk codNote (hS.blk 8 rfl) rfl (by simp) (fun _ _ => trivial) rfl) (by unfold maxLen; decide) (by decide) (fun a1 c1 w4 hx hS => ?_)
        replace hK := hK.trans (hx.mono fun q h => by simp [Value.ownBlock] at h)
        refine KeepC.mk hK ?_
        clear hx hK
        replace hS := hS.keep 8
        replace hS : St w (inF (rnodeH A N R)) w4 (rnodeH A (N2) (R) ++ [ownL 134 5 encNV (.slice a1 1 c1) [⟨(N2).id, (N2).cell.li, (N2).role.epoch, true, none, 0, 0⟩]]) := hS
        (conv => whnf)
        refine brD (fun _ => ?_) (fun h => absurd hz h)
        (conv => whnf)
        have hn4 := St.neF hS 0 4 rfl rfl (by decide) (c := A.x) (by simp [refL])
        have hn5 := St.neF hS 0 4 rfl rfl (by decide) (c := A.xg) (by simp [refL])
        have hn8 : ¬ (Value.slice a1 1 c1).ownBlock = some A.n := fun h => hS.apartAt 0 7 rfl rfl (by decide) _ (List.mem_singleton.2 rfl) (by simp only [ownL, own]; rw [h]; simp)
        have hc4 := St.neF hS 2 4 rfl rfl (by decide) (c := A.x) (by simp [refL])
        have hc5 := St.neF hS 2 4 rfl rfl (by decide) (c := A.xg) (by simp [refL])
        have hc8 : ¬ (Value.slice a1 1 c1).ownBlock = some A.c := fun h => hS.apartAt 2 7 rfl rfl (by decide) _ (List.mem_singleton.2 rfl) (by simp only [ownL, own]; rw [h]; simp)
        have hr4 := St.neF hS 1 4 rfl rfl (by decide) (c := A.x) (by simp [refL])
        have hr5 := St.neF hS 1 4 rfl rfl (by decide) (c := A.xg) (by simp [refL])
        have hr8 : ¬ (Value.slice a1 1 c1).ownBlock = some A.r := fun h => hS.apartAt 1 7 rfl rfl (by decide) _ (List.mem_singleton.2 rfl) (by simp only [ownL, own]; rw [h]; simp)
        have hap : ∀ b ∈ [A.t, A.tg], ¬ (b = A.x ∨ b = A.xg) := fun b hb hx => hS.apartAt 3 4 rfl rfl (by decide) b (by simpa [refT] using hb) (by simpa [refL] using hx)
        (refine drawS tabOk mixed [] (fun b => b = A.x ∨ b = A.xg ∨ (Value.slice a1 1 c1).ownBlock = some b) [0, 1, 2, 3, 4, 5, 6, 7, 8, 9, 10, 11, 12, 13, 14, 15, 16, 17, 18, 19, 20, 21, 22, 23, 24, 25, 26, 27] (by kernel_rfl) ?_; rintro w1 rfl; replace hS := hS.drew)
        have hK := hS.ref (fun b => b = A.x ∨ b = A.xg ∨ (Value.slice a1 1 c1).ownBlock = some b)
        repeat' ((conv => whnf); first | refine hS.ldF 0 rfl rfl (fun h => h.elim hn4 fun h => h.elim hn5 hn8) ?_ | refine hS.ldF 2 rfl rfl (fun h => h.elim hc4 fun h => h.elim hc5 hc8) ?_ | refine hS.ldF 1 rfl rfl (fun h => h.elim hr4 fun h => h.elim hr5 hr8) ?_)
        refine (rlNext_ok (hS.get 3 rfl) (hS.get 4 rfl) hap hO2.tab hO2.told hO2.cur).mono ?_
        rintro v w' ⟨⟨x, y, rfl⟩, hx, hB, ho, hf⟩
        replace hS := hS.updMade 4 rfl hx (fun c hc => by simpa [refL] using hc) refL_local hB (fun c hc => hc) ownL_local ho (fun g hg => hf g (by simpa [ownL, own] using hg))
        replace hK := hK.trans (hx.mono fun b h => h.elim .inl fun h => .inr (.inl h))
        refine KeepC.mk hK ?_
        clear hx hB ho hf
        (conv => whnf)
        refine hS.litX Tryz.underlying79 (sz := 5) (by kernel_rfl) (z := .agg (encNV noNV).toArray) (by kernel_rfl) rfl rfl (cs := encNV ⟨(N2).id, (N2).cell.li, (N2).role.epoch, false, x, ((N2).tel.picks (N2).tab.cells).length, y⟩) (by rfl) (fun b9 w3 hb9 hx hS => ?_)
        replace hK := hK.trans hx.of_no
        refine KeepC.mk hK ?_
        clear hx
        (conv => whnf)
        refine hS.appX codNote 7 (ys := [⟨(N2).id, (N2).cell.li, (N2).role.epoch, false, x, ((N2).tel.picks (N2).tab.cells).length, y⟩]) (G := fun _ => True) Tryz.underlying79 (bytes := 56) (by kernel_rfl) (z := .agg (encNV noNV).toArray) (by kernel_rfl) rfl rfl (Slc.of_blk codNote (hS.blk 9 rfl) rfl (by simp) (fun _ _ => trivial) rfl) (by unfold maxLen; show 1 + 1 ≤ _; decide) (by show (1 + 1) * 56 ≤ _; decide) (fun a2 c2 w4 hx hS => ?_)
        replace hK := hK.trans (hx.mono fun q h => .inr (.inr h))
        refine KeepC.mk hK ?_
        clear hx hK
        replace hS := hS.keep 9
        repeat' ((conv => whnf); first | refine RetC.mk ?_ | refine NzC.mk (by decide) ?_ | refine RngC.mk (by omega) (by omega) ?_ | refine IdxC.mk (by omega) (by omega) ?_ | refine brD (fun _ => ?_) (fun _ => ?_) | refine brND (fun _ => ?_) (fun _ => ?_) | refine brN (fun _ => ?_) (fun _ => ?_) | refine brI (fun _ => ?_) (fun _ => ?_))
        rw [notes_t hbt]
        replace hS : St w (inF (rnodeH A N R)) w4 (rnodeH A { (N2) with tel := (N2).tel.next (N2).tab.cells } (R) ++ rnoteH a2 c2 x y [⟨(N2).id, (N2).cell.li, (N2).role.epoch, true, []⟩, ⟨(N2).id, (N2).cell.li, (N2).role.epoch, false, outC (N2).tab.cells ((N2).tel.picks (N2).tab.cells)⟩]) := by
          have hc : cellsOfN [⟨(N2).id, (N2).cell.li, (N2).role.epoch, true, []⟩, ⟨(N2).id, (N2).cell.li, (N2).role.epoch, false, outC (N2).tab.cells ((N2).tel.picks (N2).tab.cells)⟩] = outC (N2).tab.cells ((N2).tel.picks (N2).tab.cells) := by simp [cellsOfN]
          have hv : [(⟨(N2).id, (N2).cell.li, (N2).role.epoch, true, []⟩ : NoteS), ⟨(N2).id, (N2).cell.li, (N2).role.epoch, false, outC (N2).tab.cells ((N2).tel.picks (N2).tab.cells)⟩].map (noteV x y) = [⟨(N2).id, (N2).cell.li, (N2).role.epoch, true, none, 0, 0⟩, ⟨(N2).id, (N2).cell.li, (N2).role.epoch, false, x, ((N2).tel.picks (N2).tab.cells).length, y⟩] := by simp [noteV, outC_len]
          unfold rnoteH
          rw [hc, hv, outC_len]
          exact hS
        exact ⟨a2, c2, x, y, (R), rfl, hA2, hR2, St.turns hS⟩
      · have hbt : (N2).beat = false := by
          unfold NodeS.beat
          rw [decide_eq_false hz, Bool.and_false]
        (conv => whnf)
        refine brD (fun h => absurd h hz) (fun _ => ?_)
        repeat' ((conv => whnf); first | refine RetC.mk ?_ | refine NzC.mk (by decide) ?_ | refine RngC.mk (by omega) (by omega) ?_ | refine IdxC.mk (by omega) (by omega) ?_ | refine brD (fun _ => ?_) (fun _ => ?_) | refine brND (fun _ => ?_) (fun _ => ?_) | refine brN (fun _ => ?_) (fun _ => ?_) | refine brI (fun _ => ?_) (fun _ => ?_))
        rw [notes_ff hbt]
        exact ⟨none, 0, none, 0, (R), rfl, hA2, hR2, St.turns (hS.addNil 59 10 encCell)⟩
  have hs1 : N.step.1 = true := hs
  have ha := step_active hs1
  rw [show N.tick B = if (N.step.2.claim B).1.2 ≠ 0 then ((N.step.2.claim B).1.2, [], (N.step.2.claim B).2.1, (N.step.2.claim B).2.2) else (0, ((N.step.2.claim B).2.1.notes (N.step.2.claim B).1.1).1, ((N.step.2.claim B).2.1.notes (N.step.2.claim B).1.1).2, (N.step.2.claim B).2.2) by
    unfold NodeS.tick
    rw [if_neg hn, if_pos hs1]]
  have hO2 := hO1.claim ha B
  generalize hNS : N.step.2 = NS at hS hO1 hO2 ha ⊢
  clear hNS hs1 hs hn hn3 hn4
  (conv => whnf)
  refine hS.ld 0 rfl rfl ?_
  (conv => whnf)
  refine (ref_next (hS.blk 1 rfl) hO1.role).mono ?_
  rintro v w2 ⟨rfl, rfl⟩
  by_cases hnx : NS.role.next.2 = 0
  case neg =>
    rw [show NS.claim B = ((false, 0), NS, B) from if_pos hnx] at hO2 ⊢
    rw [if_neg (show ¬ (((false, 0), NS, B) : (Bool × Nat) × NodeS × BytS).1.2 ≠ 0 by simp)]
    dsimp only at hO2 ⊢
    (conv => whnf)
    refine brD (fun h => absurd (by omega) hnx) (fun _ => ?_)
    (conv => whnf)
    refine hS.ld 0 rfl rfl ?_
    (conv => whnf)
    refine hS.ld 1 rfl (v := .bool (NS).role.active) rfl ?_
    replace hS := hS.addNil 134 5 encNV
    cases hact : (NS).role.active
    · have hbt : (NS).beat = false := by
        unfold NodeS.beat
        rw [hact]
        rfl
      repeat' ((conv => whnf); first | refine RetC.mk ?_ | refine NzC.mk (by decide) ?_ | refine RngC.mk (by omega) (by omega) ?_ | refine IdxC.mk (by omega) (by omega) ?_ | refine brD (fun _ => ?_) (fun _ => ?_) | refine brND (fun _ => ?_) (fun _ => ?_) | refine brN (fun _ => ?_) (fun _ => ?_) | refine brI (fun _ => ?_) (fun _ => ?_))
      rw [notes_ff hbt]
      exact ⟨none, 0, none, 0, (R), rfl, hA2, hR2, St.turns (hS.addNil 59 10 encCell)⟩
    · skip
      (conv => whnf)
      refine hS.ld 0 rfl rfl ?_
      (conv => whnf)
      refine NzC.mk (by decide) ?_
      (conv => whnf)
      refine brD (fun hz => ?_) (fun hz => ?_)
      · have hbt : (NS).beat = true := by
          unfold NodeS.beat
          rw [hact, decide_eq_true hz]
          rfl
        (conv => whnf)
        (refine drawS tabOk mixed [] No [0, 1, 2, 3, 4, 5, 6, 7, 8, 9, 10, 11, 12, 13, 14, 15, 16, 17, 18, 19, 20, 21, 22] (by kernel_rfl) ?_; rintro w1 rfl; replace hS := hS.drew)
        have hK := hS.ref No
        repeat' ((conv => whnf); first | refine hS.ldF 0 rfl rfl id ?_ | refine hS.ldF 2 rfl rfl id ?_ | refine hS.ldF 1 rfl rfl id ?_)
        refine hS.litX Tryz.underlying79 (sz := 5) (by kernel_rfl) (z := .agg (encNV noNV).toArray) (by kernel_rfl) rfl rfl (cs := encNV ⟨(NS).id, (NS).cell.li, (NS).role.epoch, true, none, 0, 0⟩) (by rfl) (fun b9 w3 hb9 hx hS => ?_)
        replace hK := hK.trans hx
        refine KeepC.mk hK ?_
        clear hx
        (conv => whnf)
        refine hS.appX codNote 7 (ys := [⟨(NS).id, (NS).cell.li, (NS).role.epoch, true, none, 0, 0⟩]) (G := fun _ => True) Tryz.underlying79 (bytes := 56) (by kernel_rfl) (z := .agg (encNV noNV).toArray) (by kernel_rfl) rfl rfl (Slc.of_blk codNote (hS.blk 8 rfl) rfl (by simp) (fun _ _ => trivial) rfl) (by unfold maxLen; decide) (by decide) (fun a1 c1 w4 hx hS => ?_)
        replace hK := hK.trans (hx.mono fun q h => by simp [Value.ownBlock] at h)
        refine KeepC.mk hK ?_
        clear hx hK
        replace hS := hS.keep 8
        replace hS : St w (inF (rnodeH A N R)) w4 (rnodeH A (NS) (R) ++ [ownL 134 5 encNV (.slice a1 1 c1) [⟨(NS).id, (NS).cell.li, (NS).role.epoch, true, none, 0, 0⟩]]) := hS
        (conv => whnf)
        refine brD (fun _ => ?_) (fun h => absurd hz h)
        (conv => whnf)
        have hn4 := St.neF hS 0 4 rfl rfl (by decide) (c := A.x) (by simp [refL])
        have hn5 := St.neF hS 0 4 rfl rfl (by decide) (c := A.xg) (by simp [refL])
        have hn8 : ¬ (Value.slice a1 1 c1).ownBlock = some A.n := fun h => hS.apartAt 0 7 rfl rfl (by decide) _ (List.mem_singleton.2 rfl) (by simp only [ownL, own]; rw [h]; simp)
        have hc4 := St.neF hS 2 4 rfl rfl (by decide) (c := A.x) (by simp [refL])
        have hc5 := St.neF hS 2 4 rfl rfl (by decide) (c := A.xg) (by simp [refL])
        have hc8 : ¬ (Value.slice a1 1 c1).ownBlock = some A.c := fun h => hS.apartAt 2 7 rfl rfl (by decide) _ (List.mem_singleton.2 rfl) (by simp only [ownL, own]; rw [h]; simp)
        have hr4 := St.neF hS 1 4 rfl rfl (by decide) (c := A.x) (by simp [refL])
        have hr5 := St.neF hS 1 4 rfl rfl (by decide) (c := A.xg) (by simp [refL])
        have hr8 : ¬ (Value.slice a1 1 c1).ownBlock = some A.r := fun h => hS.apartAt 1 7 rfl rfl (by decide) _ (List.mem_singleton.2 rfl) (by simp only [ownL, own]; rw [h]; simp)
        have hap : ∀ b ∈ [A.t, A.tg], ¬ (b = A.x ∨ b = A.xg) := fun b hb hx => hS.apartAt 3 4 rfl rfl (by decide) b (by simpa [refT] using hb) (by simpa [refL] using hx)
        (refine drawS tabOk mixed [] (fun b => b = A.x ∨ b = A.xg ∨ (Value.slice a1 1 c1).ownBlock = some b) [0, 1, 2, 3, 4, 5, 6, 7, 8, 9, 10, 11, 12, 13, 14, 15, 16, 17, 18, 19, 20, 21, 22, 23, 24, 25, 26, 27] (by kernel_rfl) ?_; rintro w1 rfl; replace hS := hS.drew)
        have hK := hS.ref (fun b => b = A.x ∨ b = A.xg ∨ (Value.slice a1 1 c1).ownBlock = some b)
        repeat' ((conv => whnf); first | refine hS.ldF 0 rfl rfl (fun h => h.elim hn4 fun h => h.elim hn5 hn8) ?_ | refine hS.ldF 2 rfl rfl (fun h => h.elim hc4 fun h => h.elim hc5 hc8) ?_ | refine hS.ldF 1 rfl rfl (fun h => h.elim hr4 fun h => h.elim hr5 hr8) ?_)
        refine (rlNext_ok (hS.get 3 rfl) (hS.get 4 rfl) hap hO2.tab hO2.told hO2.cur).mono ?_
        rintro v w' ⟨⟨x, y, rfl⟩, hx, hB, ho, hf⟩
        replace hS := hS.updMade 4 rfl hx (fun c hc => by simpa [refL] using hc) refL_local hB (fun c hc => hc) ownL_local ho (fun g hg => hf g (by simpa [ownL, own] using hg))
        replace hK := hK.trans (hx.mono fun b h => h.elim .inl fun h => .inr (.inl h))
        refine KeepC.mk hK ?_
        clear hx hB ho hf
        (conv => whnf)
        refine hS.litX Tryz.underlying79 (sz := 5) (by kernel_rfl) (z := .agg (encNV noNV).toArray) (by kernel_rfl) rfl rfl (cs := encNV ⟨(NS).id, (NS).cell.li, (NS).role.epoch, false, x, ((NS).tel.picks (NS).tab.cells).length, y⟩) (by rfl) (fun b9 w3 hb9 hx hS => ?_)
        replace hK := hK.trans hx.of_no
        refine KeepC.mk hK ?_
        clear hx
        (conv => whnf)
        refine hS.appX codNote 7 (ys := [⟨(NS).id, (NS).cell.li, (NS).role.epoch, false, x, ((NS).tel.picks (NS).tab.cells).length, y⟩]) (G := fun _ => True) Tryz.underlying79 (bytes := 56) (by kernel_rfl) (z := .agg (encNV noNV).toArray) (by kernel_rfl) rfl rfl (Slc.of_blk codNote (hS.blk 9 rfl) rfl (by simp) (fun _ _ => trivial) rfl) (by unfold maxLen; show 1 + 1 ≤ _; decide) (by show (1 + 1) * 56 ≤ _; decide) (fun a2 c2 w4 hx hS => ?_)
        replace hK := hK.trans (hx.mono fun q h => .inr (.inr h))
        refine KeepC.mk hK ?_
        clear hx hK
        replace hS := hS.keep 9
        repeat' ((conv => whnf); first | refine RetC.mk ?_ | refine NzC.mk (by decide) ?_ | refine RngC.mk (by omega) (by omega) ?_ | refine IdxC.mk (by omega) (by omega) ?_ | refine brD (fun _ => ?_) (fun _ => ?_) | refine brND (fun _ => ?_) (fun _ => ?_) | refine brN (fun _ => ?_) (fun _ => ?_) | refine brI (fun _ => ?_) (fun _ => ?_))
        rw [notes_t hbt]
        replace hS : St w (inF (rnodeH A N R)) w4 (rnodeH A { (NS) with tel := (NS).tel.next (NS).tab.cells } (R) ++ rnoteH a2 c2 x y [⟨(NS).id, (NS).cell.li, (NS).role.epoch, true, []⟩, ⟨(NS).id, (NS).cell.li, (NS).role.epoch, false, outC (NS).tab.cells ((NS).tel.picks (NS).tab.cells)⟩]) := by
          have hc : cellsOfN [⟨(NS).id, (NS).cell.li, (NS).role.epoch, true, []⟩, ⟨(NS).id, (NS).cell.li, (NS).role.epoch, false, outC (NS).tab.cells ((NS).tel.picks (NS).tab.cells)⟩] = outC (NS).tab.cells ((NS).tel.picks (NS).tab.cells) := by simp [cellsOfN]
          have hv : [(⟨(NS).id, (NS).cell.li, (NS).role.epoch, true, []⟩ : NoteS), ⟨(NS).id, (NS).cell.li, (NS).role.epoch, false, outC (NS).tab.cells ((NS).tel.picks (NS).tab.cells)⟩].map (noteV x y) = [⟨(NS).id, (NS).cell.li, (NS).role.epoch, true, none, 0, 0⟩, ⟨(NS).id, (NS).cell.li, (NS).role.epoch, false, x, ((NS).tel.picks (NS).tab.cells).length, y⟩] := by simp [noteV, outC_len]
          unfold rnoteH
          rw [hc, hv, outC_len]
          exact hS
        exact ⟨a2, c2, x, y, (R), rfl, hA2, hR2, St.turns hS⟩
      · have hbt : (NS).beat = false := by
          unfold NodeS.beat
          rw [decide_eq_false hz, Bool.and_false]
        (conv => whnf)
        refine brD (fun h => absurd h hz) (fun _ => ?_)
        repeat' ((conv => whnf); first | refine RetC.mk ?_ | refine NzC.mk (by decide) ?_ | refine RngC.mk (by omega) (by omega) ?_ | refine IdxC.mk (by omega) (by omega) ?_ | refine brD (fun _ => ?_) (fun _ => ?_) | refine brND (fun _ => ?_) (fun _ => ?_) | refine brN (fun _ => ?_) (fun _ => ?_) | refine brI (fun _ => ?_) (fun _ => ?_))
        rw [notes_ff hbt]
        exact ⟨none, 0, none, 0, (R), rfl, hA2, hR2, St.turns (hS.addNil 59 10 encCell)⟩
  have hcl := RoleS.claim_next ha hnx
  have hpos := RoleS.next_pos hO1.role hnx
  rw [hnx]
  have hn1 := hS.ne 0 2 rfl rfl (by decide)
  have hn2 := hS.ne 0 6 rfl rfl (by decide)
  (conv => whnf)
  (refine drawS tabOk mixed [11] (fun b => b = A.b ∨ b = A.c) [0, 1, 2, 3, 4, 5, 6, 7, 8, 9, 10, 11, 12, 13] (by kernel_rfl) ?_; rintro w1 rfl; replace hS := hS.drew)
  have hK := hS.ref (fun b => b = A.b ∨ b = A.c)
  repeat' ((conv => whnf); first | refine hS.ldF 0 rfl rfl (fun h => h.elim hn2 hn1) ?_ | (refine hS.ld 2 rfl rfl ?_; refine KeepC.mk hK ?_))
  refine (rcput_ok NS.role.next.1 NS.cell.li (hS.blk 2 rfl) (hS.blk 6 rfl) hA hB hR hj hO1.num).mono ?_
  rintro v w4 ⟨rfl, hx, R', hA', hR', hB1, hC1⟩
  have hs0 := hS.sel [6, 2, 0, 1, 3, 4, 5] (by decide)
  have hs1 := (Ev.St.upd2 hs0 hx (by simp [blk]) (blk_local _ _ _) hB1 rfl (blk_local _ _ _) hC1 rfl).sel [2, 3, 1, 4, 5, 6, 0] (by decide)
  refine KeepC.mk (hK.trans hx) ?_
  clear hS hs0 hB1 hC1 hx hK hA2 hR2 hA
  have hA2 := hA'
  have hR2 := hR'
  clear hA' hR'
  by_cases hp : (NS.cell.put B NS.role.next.1 NS.cell.li).1 = 0
  case neg =>
    rw [show NS.claim B = ((false, (NS.cell.put B NS.role.next.1 NS.cell.li).1), { NS with cell := (NS.cell.put B NS.role.next.1 NS.cell.li).2.2 }, (NS.cell.put B NS.role.next.1 NS.cell.li).2.1) by
      unfold NodeS.claim
      rw [if_neg (fun h => h hnx), if_pos hp]]
    rw [if_pos (show (((false, (NS.cell.put B NS.role.next.1 NS.cell.li).1), { NS with cell := (NS.cell.put B NS.role.next.1 NS.cell.li).2.2 }, (NS.cell.put B NS.role.next.1 NS.cell.li).2.1) : (Bool × Nat) × NodeS × BytS).1.2 ≠ 0 from hp)]
    (conv => whnf)
    refine brD (fun _ => ?_) (fun h => absurd (show ((NS.cell.put B NS.role.next.1 NS.cell.li).1 : Int) > 0 by omega) h)
    repeat' ((conv => whnf); first | refine RetC.mk ?_ | refine NzC.mk (by decide) ?_ | refine RngC.mk (by omega) (by omega) ?_ | refine IdxC.mk (by omega) (by omega) ?_ | refine brD (fun _ => ?_) (fun _ => ?_) | refine brND (fun _ => ?_) (fun _ => ?_) | refine brN (fun _ => ?_) (fun _ => ?_) | refine brI (fun _ => ?_) (fun _ => ?_))
    exact ⟨none, 0, none, 0, R', rfl, hA2, hR2, St.turns ((Ev.St.addNil hs1 134 5 encNV).addNil 59 10 encCell)⟩
  have hcl2 : NS.claim B = ((true, 0), { NS with cell := (NS.cell.put B NS.role.next.1 NS.cell.li).2.2, role := (NS.role.claim NS.role.next.1).2, tab := putAll NS.now NS.tab (flowsOf NS.mir.cells) }, (NS.cell.put B NS.role.next.1 NS.cell.li).2.1) := by
    unfold NodeS.claim
    rw [if_neg (fun h => h hnx), if_neg (fun h => h hp)]
  rw [hcl2] at hO2 ⊢
  clear hcl2
  rw [if_neg (show ¬ (((true, 0), { NS with cell := (NS.cell.put B NS.role.next.1 NS.cell.li).2.2, role := (NS.role.claim NS.role.next.1).2, tab := putAll NS.now NS.tab (flowsOf NS.mir.cells) }, (NS.cell.put B NS.role.next.1 NS.cell.li).2.1) : (Bool × Nat) × NodeS × BytS).1.2 ≠ 0 by simp)]
  dsimp only at hO2 ⊢
  rw [hp]
  generalize (NS.cell.put B NS.role.next.1 NS.cell.li).2 = BC at hs1 hO2 hA2 ⊢
  obtain ⟨B2, C2⟩ := BC
  have hS : St w (inF (rnodeH A N R)) w4 (rnodeH A { NS with cell := C2 } R') := hs1
  clear hs1
  dsimp only at hO2 hA2 ⊢
  (conv => whnf)
  refine hS.ld 0 rfl rfl ?_
  (conv => whnf)
  refine (ref_claim NS.role.next.1 (hS.blk 1 rfl) hO1.role).mono ?_
  rintro v w' ⟨rfl, hx, hB1⟩
  replace hS := hS.upd 1 rfl hx (fun c hc => by subst hc; exact List.mem_singleton.2 rfl) (blk_local _ _ _) hB1 (fun c hc => .inl hc)
  clear hx hB1
  replace hS : St w (inF (rnodeH A N R)) w' (rnodeH A { NS with cell := C2, role := (NS.role.claim NS.role.next.1).2 } R') := hS
  (conv => whnf)
  refine hS.ld 0 rfl rfl ?_
  (conv => whnf)
  refine ldc ((hS.get 5 rfl).2.1.cell 1) ?_
  have hml := hO1.mir
  have hsl : Slc w' 10 encCell (fun _ => True) (some ⟨A.mg, 0, none⟩) 32 NS.mir.cells := ownL_slc (G := fun _ => True) codCell (hS.get 5 rfl).2.2 fun _ _ => trivial
  (conv => whnf)
  refine (flowsOf_ok hsl (by decide)).mono ?_
  rintro v w' ⟨a, c, rfl, hx, ho, hf⟩
  replace hS := hS.made hx ownL_local ho (fun g hg => hf g (by simpa [ownL, own] using hg))
  clear hx ho hf hsl
  have hlen := flowsOf_len NS.mir.cells
  rw [hml] at hlen
  generalize flowsOf NS.mir.cells = l at hS hlen hO2 ⊢
  generalize (NS.role.claim NS.role.next.1).2 = r2 at hS hO2 ⊢
  have hn0 := hO1.n0
  have hn9 := hO1.n1
  (conv => whnf)
  refine loopR tabOk (fun σ w' q => ∃ k : Nat, σ = [(10, .int .i64 k), (9, .slice a l.length c), (4, .bool true), (0, .pointer (some ⟨A.n, 0, none⟩))] ∧ q = l.length - k ∧ k ≤ l.length ∧ St w (inF (rnodeH A N R)) w' (rnodeH A { NS with cell := C2, role := r2, tab := putAll NS.now NS.tab (l.take k) } R' ++ [ownL 57 8 encFlow (.slice a l.length c) l]))
    (σ' := [(10, .int .i64 ((0 : Nat) : Int)), (9, .slice a l.length c), (4, .bool true), (0, .pointer (some ⟨A.n, 0, none⟩))]) (n := l.length) ⟨rfl, rfl, rfl, rfl, trivial⟩ ⟨0, rfl, rfl, Nat.zero_le _, hS⟩ ?_
  clear hS
  rintro _ w1 q' ⟨k, rfl, rfl, hk, hS⟩
  (conv => whnf)
  refine brD (fun h3 => ?_) (fun h3 => ?_)
  · obtain ⟨b0, o0, x, hxk, _, rfl, hb0, hc⟩ := (ownL_slc (G := fun _ => True) codFlow (hS.get 7 rfl) (fun _ _ => trivial)).at (k := k) (by omega)
    have hstep := putAll_step NS.now NS.tab hxk
    have hTk := putAll_ok NS.now (l.take k) hO1.tab
    have hlk : (l.take k).length ≤ 32 := by rw [List.length_take]; omega
    generalize putAll NS.now NS.tab (l.take k) = T at hS hstep hTk
    (conv => whnf)
    refine IdxC.mk (by omega) (by omega) ?_
    (conv => whnf)
    refine ⟨encFlow x, rfl, hc, ?_⟩
    (conv => whnf)
    refine hS.new (fun bf w' hbf hS => ?_)
    (conv => whnf)
    refine hS.st 8 rfl (Nat.le_of_ble_eq_true rfl) rfl (fun w' hS => ?_)
    replace hS : St w (inF (rnodeH A N R)) w' (rnodeH A { NS with cell := C2, role := r2, tab := T } R' ++ [ownL 57 8 encFlow (.slice (some ⟨b0, o0, none⟩) l.length c) l, blk bf 57 (encFlow x)]) := hS
    have hf1 := hS.ne 0 8 rfl rfl (by decide)
    have hf3 := St.neF hS 8 3 rfl rfl (by decide) (c := A.tg) (by simp [refT])
    have hf4 := St.neF hS 0 3 rfl rfl (by decide) (c := A.tg) (by simp [refT])
    have htb := timeS_bound x.proto x.state
    (conv => whnf)
    refine drawI tabOk mixed [] (fun w1 w' => Ext (· = bf) w1 w' ∧ ∃ y, Blk w' bf 57 (encFlow { x with til := y })) [0, 1, 2, 3, 4, 5, 6, 7, 8, 9, 10, 11] (by kernel_rfl) ?_
    rintro w1 rfl
    replace hS := hS.drew
    refine ⟨⟨Ext.refl _ _, x.til, hS.blk 8 rfl⟩, ?_⟩
    have hK := hS.ref (· = bf)
    (conv => whnf)
    refine LdF.imp (fun _ h => h.1) (hS.ldF 0 rfl rfl hf1 ?_)
    (conv => whnf)
    refine ⟨.int .i64 x.proto, fun w' h => by obtain ⟨_, y, h⟩ := h; rw [h.cell]; rfl, ?_⟩
    (conv => whnf)
    refine ⟨.int .i64 x.state, fun w' h => by obtain ⟨_, y, h⟩ := h; rw [h.cell]; rfl, ?_⟩
    (conv => whnf)
    refine (timeOf_ok _ _ _).mono ?_
    rintro v w' ⟨rfl, rfl⟩
    refine KeepC.mk ⟨hK, x.til, hS.blk 8 rfl⟩ ?_
    (conv => whnf)
    refine RngC.mk (by dsimp only; omega) (by dsimp only; omega) ?_
    (conv => whnf)
    refine hS.stK hK 8 rfl (Nat.le_of_ble_eq_true rfl) rfl rfl (fun w' hK hS => KeepC.mk ⟨hK, NS.now + timeS x.proto x.state, hS.blk 8 rfl⟩ ?_)
    clear hK
    (conv => whnf)
    (refine drawS tabOk mixed [] (fun b => b = A.tg) [0, 1, 2, 3, 4, 5] (by kernel_rfl) ?_; rintro w1 rfl; replace hS := hS.drew)
    repeat' ((conv => whnf); first | refine hS.laXF 8 rfl rfl hf3 ?_ | refine hS.ldF 0 rfl rfl hf4 ?_)
    refine (rput_ok { x with til := NS.now + timeS x.proto x.state } (hS.get 3 rfl) hTk (by omega)).mono ?_
    rintro v w' ⟨rfl, hx, hT⟩
    refine KeepC.mk hx ?_
    replace hS := hS.upd 3 rfl hx (fun d hd => by subst hd; simp [refT]) refT_local hT (fun d hd => .inl hd)
    rw [← hstep] at hS
    (conv => whnf)
    refine RngC.mk (by omega) (by omega) ?_
    (conv => whnf)
    refine LoopE.mk ⟨_, [(10, .int .i64 ((k + 1 : Nat) : Int)), (9, _), (4, _), (0, _)], ?_, ⟨rfl, rfl, rfl, rfl, trivial⟩, ⟨k + 1, rfl, rfl, by omega, hS.keep 8⟩⟩
    omega
  obtain rfl : k = l.length := by omega
  rw [List.take_length] at hS
  replace hS := hS.keep 7
  replace hS : St w (inF (rnodeH A N R)) w1 (rnodeH A { NS with cell := C2, role := r2, tab := putAll NS.now NS.tab l } R') := hS
  generalize hN3 : ({ NS with cell := C2, role := r2, tab := putAll NS.now NS.tab l } : NodeS) = N3 at hS hO2 ⊢
  clear hN3
  (conv => whnf)
  refine hS.ld 0 rfl rfl ?_
  (conv => whnf)
  refine hS.ld 1 rfl (v := .bool (N3).role.active) rfl ?_
  replace hS := hS.addNil 134 5 encNV
  cases hact : (N3).role.active
  · have hbt : (N3).beat = false := by
      unfold NodeS.beat
      rw [hact]
      rfl
    (conv => whnf)
    (refine drawS tabOk mixed [] No [0, 1, 2, 3, 4, 5, 6, 7, 8, 9, 10, 11, 12, 13, 14, 15, 16, 17, 18, 19, 20, 21, 22] (by kernel_rfl) ?_; rintro w1 rfl; replace hS := hS.drew)
    have hK := hS.ref No
    repeat' ((conv => whnf); first | refine hS.ldF 0 rfl rfl id ?_ | refine hS.ldF 2 rfl rfl id ?_ | refine hS.ldF 1 rfl rfl id ?_)
    refine hS.litX Tryz.underlying79 (sz := 5) (by kernel_rfl) (z := .agg (encNV noNV).toArray) (by kernel_rfl) rfl rfl (cs := encNV ⟨(N3).id, (N3).cell.li, (N3).role.epoch, true, none, 0, 0⟩) (by rfl) (fun b9 w3 hb9 hx hS => ?_)
    replace hK := hK.trans hx
    refine KeepC.mk hK ?_
    clear hx
    (conv => whnf)
    refine hS.appX codNote 7 (ys := [⟨(N3).id, (N3).cell.li, (N3).role.epoch, true, none, 0, 0⟩]) (G := fun _ => True) Tryz.underlying79 (bytes := 56) (by kernel_rfl) (z := .agg (encNV noNV).toArray) (by kernel_rfl) rfl rfl (Slc.of_blk codNote (hS.blk 8 rfl) rfl (by simp) (fun _ _ => trivial) rfl) (by unfold maxLen; decide) (by decide) (fun a1 c1 w4 hx hS => ?_)
    replace hK := hK.trans (hx.mono fun q h => by simp [Value.ownBlock] at h)
    refine KeepC.mk hK ?_
    clear hx hK
    replace hS := hS.keep 8
    repeat' ((conv => whnf); first | refine RetC.mk ?_ | refine NzC.mk (by decide) ?_ | refine RngC.mk (by omega) (by omega) ?_ | refine IdxC.mk (by omega) (by omega) ?_ | refine brD (fun _ => ?_) (fun _ => ?_) | refine brND (fun _ => ?_) (fun _ => ?_) | refine brN (fun _ => ?_) (fun _ => ?_) | refine brI (fun _ => ?_) (fun _ => ?_))
    rw [notes_tf hbt]
    exact ⟨a1, c1, none, 0, (R'), rfl, hA2, hR2, St.turns (hS.addNil 59 10 encCell)⟩
  · skip
    (conv => whnf)
    refine hS.ld 0 rfl rfl ?_
    (conv => whnf)
    refine NzC.mk (by decide) ?_
    by_cases hz : (N3).now.tmod 3 = 0
    · have hbt : (N3).beat = true := by
        unfold NodeS.beat
        rw [hact, decide_eq_true hz]
        rfl
      (conv => whnf)
      (refine drawS tabOk mixed [] No [0, 1, 2, 3, 4, 5, 6, 7, 8, 9, 10, 11, 12, 13, 14, 15, 16, 17, 18, 19, 20, 21, 22] (by kernel_rfl) ?_; rintro w1 rfl; replace hS := hS.drew)
      have hK := hS.ref No
      repeat' ((conv => whnf); first | refine hS.ldF 0 rfl rfl id ?_ | refine hS.ldF 2 rfl rfl id ?_ | refine hS.ldF 1 rfl rfl id ?_)
      refine hS.litX Tryz.underlying79 (sz := 5) (by kernel_rfl) (z := .agg (encNV noNV).toArray) (by kernel_rfl) rfl rfl (cs := encNV ⟨(N3).id, (N3).cell.li, (N3).role.epoch, true, none, 0, 0⟩) (by rfl) (fun b9 w3 hb9 hx hS => ?_)
      replace hK := hK.trans hx
      refine KeepC.mk hK ?_
      clear hx
      (conv => whnf)
      refine hS.appX codNote 7 (ys := [⟨(N3).id, (N3).cell.li, (N3).role.epoch, true, none, 0, 0⟩]) (G := fun _ => True) Tryz.underlying79 (bytes := 56) (by kernel_rfl) (z := .agg (encNV noNV).toArray) (by kernel_rfl) rfl rfl (Slc.of_blk codNote (hS.blk 8 rfl) rfl (by simp) (fun _ _ => trivial) rfl) (by unfold maxLen; decide) (by decide) (fun a1 c1 w4 hx hS => ?_)
      replace hK := hK.trans (hx.mono fun q h => by simp [Value.ownBlock] at h)
      refine KeepC.mk hK ?_
      clear hx hK
      replace hS := hS.keep 8
      replace hS : St w (inF (rnodeH A N R)) w4 (rnodeH A (N3) (R') ++ [ownL 134 5 encNV (.slice a1 1 c1) [⟨(N3).id, (N3).cell.li, (N3).role.epoch, true, none, 0, 0⟩]]) := hS
      (conv => whnf)
      refine brD (fun _ => ?_) (fun h => absurd hz h)
      (conv => whnf)
      have hn4 := St.neF hS 0 4 rfl rfl (by decide) (c := A.x) (by simp [refL])
      have hn5 := St.neF hS 0 4 rfl rfl (by decide) (c := A.xg) (by simp [refL])
      have hn8 : ¬ (Value.slice a1 1 c1).ownBlock = some A.n := fun h => hS.apartAt 0 7 rfl rfl (by decide) _ (List.mem_singleton.2 rfl) (by simp only [ownL, own]; rw [h]; simp)
      have hc4 := St.neF hS 2 4 rfl rfl (by decide) (c := A.x) (by simp [refL])
      have hc5 := St.neF hS 2 4 rfl rfl (by decide) (c := A.xg) (by simp [refL])
      have hc8 : ¬ (Value.slice a1 1 c1).ownBlock = some A.c := fun h => hS.apartAt 2 7 rfl rfl (by decide) _ (List.mem_singleton.2 rfl) (by simp only [ownL, own]; rw [h]; simp)
      have hr4 := St.neF hS 1 4 rfl rfl (by decide) (c := A.x) (by simp [refL])
      have hr5 := St.neF hS 1 4 rfl rfl (by decide) (c := A.xg) (by simp [refL])
      have hr8 : ¬ (Value.slice a1 1 c1).ownBlock = some A.r := fun h => hS.apartAt 1 7 rfl rfl (by decide) _ (List.mem_singleton.2 rfl) (by simp only [ownL, own]; rw [h]; simp)
      have hap : ∀ b ∈ [A.t, A.tg], ¬ (b = A.x ∨ b = A.xg) := fun b hb hx => hS.apartAt 3 4 rfl rfl (by decide) b (by simpa [refT] using hb) (by simpa [refL] using hx)
      (refine drawS tabOk mixed [] (fun b => b = A.x ∨ b = A.xg ∨ (Value.slice a1 1 c1).ownBlock = some b) [0, 1, 2, 3, 4, 5, 6, 7, 8, 9, 10, 11, 12, 13, 14, 15, 16, 17, 18, 19, 20, 21, 22, 23, 24, 25, 26, 27] (by kernel_rfl) ?_; rintro w1 rfl; replace hS := hS.drew)
      have hK := hS.ref (fun b => b = A.x ∨ b = A.xg ∨ (Value.slice a1 1 c1).ownBlock = some b)
      repeat' ((conv => whnf); first | refine hS.ldF 0 rfl rfl (fun h => h.elim hn4 fun h => h.elim hn5 hn8) ?_ | refine hS.ldF 2 rfl rfl (fun h => h.elim hc4 fun h => h.elim hc5 hc8) ?_ | refine hS.ldF 1 rfl rfl (fun h => h.elim hr4 fun h => h.elim hr5 hr8) ?_)
      refine (rlNext_ok (hS.get 3 rfl) (hS.get 4 rfl) hap hO2.tab hO2.told hO2.cur).mono ?_
      rintro v w' ⟨⟨x, y, rfl⟩, hx, hB, ho, hf⟩
      replace hS := hS.updMade 4 rfl hx (fun c hc => by simpa [refL] using hc) refL_local hB (fun c hc => hc) ownL_local ho (fun g hg => hf g (by simpa [ownL, own] using hg))
      replace hK := hK.trans (hx.mono fun b h => h.elim .inl fun h => .inr (.inl h))
      refine KeepC.mk hK ?_
      clear hx hB ho hf
      (conv => whnf)
      refine hS.litX Tryz.underlying79 (sz := 5) (by kernel_rfl) (z := .agg (encNV noNV).toArray) (by kernel_rfl) rfl rfl (cs := encNV ⟨(N3).id, (N3).cell.li, (N3).role.epoch, false, x, ((N3).tel.picks (N3).tab.cells).length, y⟩) (by rfl) (fun b9 w3 hb9 hx hS => ?_)
      replace hK := hK.trans hx.of_no
      refine KeepC.mk hK ?_
      clear hx
      (conv => whnf)
      refine hS.appX codNote 7 (ys := [⟨(N3).id, (N3).cell.li, (N3).role.epoch, false, x, ((N3).tel.picks (N3).tab.cells).length, y⟩]) (G := fun _ => True) Tryz.underlying79 (bytes := 56) (by kernel_rfl) (z := .agg (encNV noNV).toArray) (by kernel_rfl) rfl rfl (Slc.of_blk codNote (hS.blk 9 rfl) rfl (by simp) (fun _ _ => trivial) rfl) (by unfold maxLen; show 1 + 1 ≤ _; decide) (by show (1 + 1) * 56 ≤ _; decide) (fun a2 c2 w4 hx hS => ?_)
      replace hK := hK.trans (hx.mono fun q h => .inr (.inr h))
      refine KeepC.mk hK ?_
      clear hx hK
      replace hS := hS.keep 9
      repeat' ((conv => whnf); first | refine RetC.mk ?_ | refine NzC.mk (by decide) ?_ | refine RngC.mk (by omega) (by omega) ?_ | refine IdxC.mk (by omega) (by omega) ?_ | refine brD (fun _ => ?_) (fun _ => ?_) | refine brND (fun _ => ?_) (fun _ => ?_) | refine brN (fun _ => ?_) (fun _ => ?_) | refine brI (fun _ => ?_) (fun _ => ?_))
      rw [notes_t hbt]
      replace hS : St w (inF (rnodeH A N R)) w4 (rnodeH A { (N3) with tel := (N3).tel.next (N3).tab.cells } (R') ++ rnoteH a2 c2 x y [⟨(N3).id, (N3).cell.li, (N3).role.epoch, true, []⟩, ⟨(N3).id, (N3).cell.li, (N3).role.epoch, false, outC (N3).tab.cells ((N3).tel.picks (N3).tab.cells)⟩]) := by
        have hc : cellsOfN [⟨(N3).id, (N3).cell.li, (N3).role.epoch, true, []⟩, ⟨(N3).id, (N3).cell.li, (N3).role.epoch, false, outC (N3).tab.cells ((N3).tel.picks (N3).tab.cells)⟩] = outC (N3).tab.cells ((N3).tel.picks (N3).tab.cells) := by simp [cellsOfN]
        have hv : [(⟨(N3).id, (N3).cell.li, (N3).role.epoch, true, []⟩ : NoteS), ⟨(N3).id, (N3).cell.li, (N3).role.epoch, false, outC (N3).tab.cells ((N3).tel.picks (N3).tab.cells)⟩].map (noteV x y) = [⟨(N3).id, (N3).cell.li, (N3).role.epoch, true, none, 0, 0⟩, ⟨(N3).id, (N3).cell.li, (N3).role.epoch, false, x, ((N3).tel.picks (N3).tab.cells).length, y⟩] := by simp [noteV, outC_len]
        unfold rnoteH
        rw [hc, hv, outC_len]
        exact hS
      exact ⟨a2, c2, x, y, (R'), rfl, hA2, hR2, St.turns hS⟩
    · have hbt : (N3).beat = false := by
        unfold NodeS.beat
        rw [decide_eq_false hz, Bool.and_false]
      (conv => whnf)
      (refine drawS tabOk mixed [] No [0, 1, 2, 3, 4, 5, 6, 7, 8, 9, 10, 11, 12, 13, 14, 15, 16, 17, 18, 19, 20, 21, 22] (by kernel_rfl) ?_; rintro w1 rfl; replace hS := hS.drew)
      have hK := hS.ref No
      repeat' ((conv => whnf); first | refine hS.ldF 0 rfl rfl id ?_ | refine hS.ldF 2 rfl rfl id ?_ | refine hS.ldF 1 rfl rfl id ?_)
      refine hS.litX Tryz.underlying79 (sz := 5) (by kernel_rfl) (z := .agg (encNV noNV).toArray) (by kernel_rfl) rfl rfl (cs := encNV ⟨(N3).id, (N3).cell.li, (N3).role.epoch, true, none, 0, 0⟩) (by rfl) (fun b9 w3 hb9 hx hS => ?_)
      replace hK := hK.trans hx
      refine KeepC.mk hK ?_
      clear hx
      (conv => whnf)
      refine hS.appX codNote 7 (ys := [⟨(N3).id, (N3).cell.li, (N3).role.epoch, true, none, 0, 0⟩]) (G := fun _ => True) Tryz.underlying79 (bytes := 56) (by kernel_rfl) (z := .agg (encNV noNV).toArray) (by kernel_rfl) rfl rfl (Slc.of_blk codNote (hS.blk 8 rfl) rfl (by simp) (fun _ _ => trivial) rfl) (by unfold maxLen; decide) (by decide) (fun a1 c1 w4 hx hS => ?_)
      replace hK := hK.trans (hx.mono fun q h => by simp [Value.ownBlock] at h)
      refine KeepC.mk hK ?_
      clear hx hK
      replace hS := hS.keep 8
      (conv => whnf)
      refine brD (fun h => absurd h hz) (fun _ => ?_)
      repeat' ((conv => whnf); first | refine RetC.mk ?_ | refine NzC.mk (by decide) ?_ | refine RngC.mk (by omega) (by omega) ?_ | refine IdxC.mk (by omega) (by omega) ?_ | refine brD (fun _ => ?_) (fun _ => ?_) | refine brND (fun _ => ?_) (fun _ => ?_) | refine brN (fun _ => ?_) (fun _ => ?_) | refine brI (fun _ => ?_) (fun _ => ?_))
      rw [notes_tf hbt]
      exact ⟨a1, c1, none, 0, (R'), rfl, hA2, hR2, St.turns (hS.addNil 59 10 encCell)⟩
end
end Go.Proofs.YtoaghhcjlfiflaaGreatDoor

namespace Go.Proofs.YtoaghhcjlfiflaaGreatDoor
open Go Ev
theorem Ev.St.newK {w0 w1 w : World} {S T : Nat → Prop} {H : List Ent} (h : St w0 S w H) (hK : Ext T w1 w) {t : TypeId} {cs : List Value} {k : Value → World → Prop} (hk : ∀ b w', Ext T w1 w' → St w0 S w' (H ++ [Ev.blk b t cs]) → k (.pointer (some ⟨b, 0, none⟩)) w') : NewC w t cs k := by
  obtain ⟨h1⟩ := h.new (t := t) (cs := cs) (k := fun v w' => Ext T w1 w' → k v w') (fun b w' _ hS hx => hk b w' hx hS)
  exact ⟨h1 (hK.trans (Ext.push _ _ _ _))⟩
theorem Ev.St.mergeM {w0 w : World} {S : Nat → Prop} {H : List Ent} {bm g c : Nat} {life : Int} {l : List CellS} (h : St w0 S w (Ev.blk bm 183 [.int .i64 life, .slice (some ⟨g, 0, none⟩) 32 c] :: ownL 59 10 encCell (.slice (some ⟨g, 0, none⟩) 32 c) l :: H)) : St w0 S w (refM bm g c ⟨life, l⟩ :: H) := by
  have hap := List.pairwise_cons.1 h.apart
  have hap2 := List.pairwise_cons.1 hap.2
  have hg : g ∈ (ownL 59 10 encCell (.slice (some ⟨g, 0, none⟩) 32 c) l).foot := by simp [ownL, own, Value.ownBlock]
  have hbm : bm ∈ (Ev.blk bm 183 [.int .i64 life, .slice (some ⟨g, 0, none⟩) 32 c]).foot := List.mem_singleton.2 rfl
  have hne : bm ≠ g := fun e => hap.1 _ List.mem_cons_self bm hbm (e ▸ hg)
  have hmH : ∀ f ∈ H, f ∈ Ev.blk bm 183 [.int .i64 life, .slice (some ⟨g, 0, none⟩) 32 c] :: ownL 59 10 encCell (.slice (some ⟨g, 0, none⟩) 32 c) l :: H := fun f hf => List.mem_cons_of_mem _ (List.mem_cons_of_mem _ hf)
  refine ⟨h.ext, ?_, ?_, ?_, ?_⟩
  · intro e he
    rcases List.mem_cons.1 he with rfl | he
    · exact ⟨hne, h.blk 0 rfl, h.get 1 rfl⟩
    · exact h.each e (hmH e he)
  · intro e he
    rcases List.mem_cons.1 he with rfl | he
    · exact refM_local
    · exact h.loc e (hmH e he)
  · intro e he b hb
    rcases List.mem_cons.1 he with rfl | he
    · simp only [refM, List.mem_cons, List.not_mem_nil, or_false] at hb
      rcases hb with rfl | rfl
      · exact h.may _ List.mem_cons_self _ hbm
      · exact h.may _ (List.mem_cons_of_mem _ List.mem_cons_self) _ hg
    · exact h.may e (hmH e he) b hb
  · refine .cons (fun f hf b hb => ?_) hap2.2
    simp only [refM, List.mem_cons, List.not_mem_nil, or_false] at hb
    rcases hb with rfl | rfl
    · exact hap.1 f (List.mem_cons_of_mem _ hf) _ hbm
    · exact hap2.1 f hf _ hg
section
variable {w : World} {A : RNodeA} {N : NodeS} {R : RBy} {B : BytS}
theorem rhear_ok {m : Nat} {G : CellS → Prop} (x : NoteV) (cs : List CellS) (hx : Slc w 10 encCell G x.a x.n cs) (hsrc : 0 < x.n → ∀ b0 o0, x.a = some ⟨b0, o0, none⟩ → ¬ inF (rnodeH A N R) b0) (hN : Has w (rnodeH A N R)) (hO : NOk m N) :
    CallC Tryz.prog 121 #[.pointer (some ⟨A.n, 0, none⟩), .agg (encNV x).toArray] w fun v w' => v = .int .i64 ((N.hear ⟨x.fro, x.life, x.epoch, x.claim, cs⟩).1 : Nat) ∧ ∃ g' c', Turns w w' (rnodeH A N R) (rnodeH { A with mg := g', mc := c' } (N.hear ⟨x.fro, x.life, x.epoch, x.claim, cs⟩).2 R) := by
  have hid := hO.id
  refine fn_intro tabOk Tryz.func121 (by kernel_rfl) rfl Tryz.ntmps121 (Nat.le_of_ble_eq_true rfl) ?_
  have hS := hN.start
  (conv => whnf)
  refine hS.new (fun bx w' hbx hS => ?_)
  replace hS : St w (inF (rnodeH A N R)) w' (rnodeH A N R ++ [blk bx 134 (encNV x)]) := hS
  (conv => whnf)
  (refine drawS tabOk mixed [] No [0, 1, 2, 3, 4, 5, 6, 7, 8, 9, 10, 11, 12, 13, 14, 15, 16, 17] (by kernel_rfl) ?_; rintro w1 rfl; replace hS := hS.drew)
  repeat' ((conv => whnf); first | refine hS.ldF 7 rfl rfl id ?_ | refine hS.ldF 0 rfl rfl id ?_ | refine RngC.mk (by omega) (by omega) ?_)
  generalize hxs : (⟨x.fro, x.life, x.epoch, x.claim, cs⟩ : NoteS) = xs
  have hcond : (x.fro ≠ 1 - N.id ∨ x.epoch < 0 ∨ x.epoch > 1073741824) → N.hear xs = (2, N) := fun h => by
    subst hxs
    exact if_pos h
  (conv => whnf)
  refine brND (fun h1 => ?_) (fun h1 => ?_)
  · rw [hcond (.inl h1)]
    repeat' ((conv => whnf); first | refine RetC.mk ?_ | refine NzC.mk (by decide) ?_ | refine RngC.mk (by omega) (by omega) ?_ | refine IdxC.mk (by omega) (by omega) ?_ | refine brD (fun _ => ?_) (fun _ => ?_) | refine brND (fun _ => ?_) (fun _ => ?_) | refine brN (fun _ => ?_) (fun _ => ?_) | refine brI (fun _ => ?_) (fun _ => ?_))
    exact ⟨rfl, A.mg, A.mc, (hS.keep 7).turns⟩
  (conv => whnf)
  refine hS.ldF 7 rfl rfl id ?_
  (conv => whnf)
  refine brD (fun h2 => ?_) (fun h2 => ?_)
  · rw [hcond (.inr (.inl h2))]
    repeat' ((conv => whnf); first | refine RetC.mk ?_ | refine NzC.mk (by decide) ?_ | refine RngC.mk (by omega) (by omega) ?_ | refine IdxC.mk (by omega) (by omega) ?_ | refine brD (fun _ => ?_) (fun _ => ?_) | refine brND (fun _ => ?_) (fun _ => ?_) | refine brN (fun _ => ?_) (fun _ => ?_) | refine brI (fun _ => ?_) (fun _ => ?_))
    exact ⟨rfl, A.mg, A.mc, (hS.keep 7).turns⟩
  (conv => whnf)
  refine hS.ldF 7 rfl rfl id ?_
  (conv => whnf)
  refine brD (fun h3 => ?_) (fun h3 => ?_)
  · rw [hcond (.inr (.inr h3))]
    repeat' ((conv => whnf); first | refine RetC.mk ?_ | refine NzC.mk (by decide) ?_ | refine RngC.mk (by omega) (by omega) ?_ | refine IdxC.mk (by omega) (by omega) ?_ | refine brD (fun _ => ?_) (fun _ => ?_) | refine brND (fun _ => ?_) (fun _ => ?_) | refine brN (fun _ => ?_) (fun _ => ?_) | refine brI (fun _ => ?_) (fun _ => ?_))
    exact ⟨rfl, A.mg, A.mc, (hS.keep 7).turns⟩
  (conv => whnf)
  refine hS.ld 7 rfl rfl ?_
  cases hcl : x.claim
  case true =>
    rw [show N.hear xs = (3, N) by subst hxs; unfold NodeS.hear; rw [if_neg (by dsimp only; omega), if_pos hcl]]
    repeat' ((conv => whnf); first | refine RetC.mk ?_ | refine NzC.mk (by decide) ?_ | refine RngC.mk (by omega) (by omega) ?_ | refine IdxC.mk (by omega) (by omega) ?_ | refine brD (fun _ => ?_) (fun _ => ?_) | refine brND (fun _ => ?_) (fun _ => ?_) | refine brN (fun _ => ?_) (fun _ => ?_) | refine brI (fun _ => ?_) (fun _ => ?_))
    exact ⟨rfl, A.mg, A.mc, (hS.keep 7).turns⟩
  have hh : N.hear xs = if (N.mir.tell x.life cs).1 ≠ 0 then ((N.mir.tell x.life cs).1, { N with mir := (N.mir.tell x.life cs).2 }) else (0, { N with mir := (N.mir.tell x.life cs).2, role := (N.role.hear x.epoch).2 }) := by
    subst hxs
    unfold NodeS.hear
    rw [if_neg (by dsimp only; omega), if_neg (by show ¬ x.claim = true; rw [hcl]; decide)]
  have hn5 := St.neF hS 0 5 rfl rfl (by decide) (c := A.m) (by simp [refM])
  have hn6 := St.neF hS 0 5 rfl rfl (by decide) (c := A.mg) (by simp [refM])
  have hn7 := St.neF hS 7 5 rfl rfl (by decide) (c := A.m) (by simp [refM])
  have hn8 := St.neF hS 7 5 rfl rfl (by decide) (c := A.mg) (by simp [refM])
  (conv => whnf)
  (refine drawS tabOk mixed [] (fun b => b = A.m ∨ b = A.mg) [0, 1, 2, 3, 4, 5, 6, 7, 8, 9] (by kernel_rfl) ?_; rintro w1 rfl; replace hS := hS.drew)
  repeat' ((conv => whnf); first | refine hS.ldF 0 rfl rfl (fun h => h.elim hn5 hn6) ?_ | refine hS.ldF 7 rfl rfl (fun h => h.elim hn7 hn8) ?_)
  have hinm : ∀ d, d = A.m ∨ d = A.mg → inF (rnodeH A N R) d := fun d hd => ⟨_, List.mem_of_getElem? (i := 5) rfl, by simpa [refM] using hd⟩
  refine (refTell_ok x.life (hS.get 5 rfl) hO.mir (hx.extN hS.ext hsrc) (fun h b0 o0 ha => ⟨fun e => hsrc h b0 o0 ha (hinm _ (.inl e)), fun e => hsrc h b0 o0 ha (hinm _ (.inr e))⟩)).mono ?_
  rintro v w' ⟨g', c', rfl, hx', hM, hg'⟩
  refine KeepC.mk hx' ?_
  replace hS := hS.upd 5 rfl hx' (fun d hd => by simpa [refM] using hd) refM_local hM (by
    intro d hd
    simp only [refM, List.mem_cons, List.not_mem_nil, or_false] at hd ⊢
    rcases hd with rfl | rfl
    · exact .inl (.inl rfl)
    · rcases hg' with rfl | h
      · exact .inl (.inr rfl)
      · exact .inr h)
  rw [hh]
  clear hh hcond hxs hM hx' hg' hn5 hn6 hn7 hn8 hinm hsrc hx
  generalize N.mir.tell x.life cs = Q at hS ⊢
  obtain ⟨k, M⟩ := Q
  replace hS : St w (inF (rnodeH A N R)) w' (rnodeH { A with mg := g', mc := c' } { N with mir := M } R ++ [blk bx 134 (encNV x)]) := hS
  by_cases hk : k = 0
  case neg =>
    rw [if_pos (show ((k, M) : Nat × MirS).1 ≠ 0 from hk)]
    (conv => whnf)
    refine brD (fun h => absurd (show k = 0 by omega) hk) (fun _ => ?_)
    repeat' ((conv => whnf); first | refine RetC.mk ?_ | refine NzC.mk (by decide) ?_ | refine RngC.mk (by omega) (by omega) ?_ | refine IdxC.mk (by omega) (by omega) ?_ | refine brD (fun _ => ?_) (fun _ => ?_) | refine brND (fun _ => ?_) (fun _ => ?_) | refine brN (fun _ => ?_) (fun _ => ?_) | refine brI (fun _ => ?_) (fun _ => ?_))
    exact ⟨rfl, g', c', (hS.keep 7).turns⟩
  subst hk
  rw [if_neg (show ¬ ((0, M) : Nat × MirS).1 ≠ 0 by simp)]
  have hn1 := hS.ne 0 1 rfl rfl (by decide)
  have hn8 := hS.ne 7 1 rfl rfl (by decide)
  (conv => whnf)
  (refine drawS tabOk mixed [] (fun b => b = A.r) [0, 1, 2, 3, 4, 5, 6] (by kernel_rfl) ?_; rintro w1 rfl; replace hS := hS.drew)
  repeat' ((conv => whnf); first | refine hS.ldF 0 rfl rfl hn1 ?_ | refine hS.ldF 7 rfl rfl hn8 ?_)
  refine (ref_hear x.epoch (hS.blk 1 rfl)).mono ?_
  rintro v w' ⟨rfl, hx', hB⟩
  refine KeepC.mk hx' ?_
  replace hS := hS.upd 1 rfl hx' (fun c hc => by subst hc; exact List.mem_singleton.2 rfl) (blk_local _ _ _) hB (fun c hc => .inl hc)
  repeat' ((conv => whnf); first | refine RetC.mk ?_ | refine NzC.mk (by decide) ?_ | refine RngC.mk (by omega) (by omega) ?_ | refine IdxC.mk (by omega) (by omega) ?_ | refine brD (fun _ => ?_) (fun _ => ?_) | refine brND (fun _ => ?_) (fun _ => ?_) | refine brN (fun _ => ?_) (fun _ => ?_) | refine brI (fun _ => ?_) (fun _ => ?_))
  exact ⟨rfl, g', c', (hS.keep 7).turns⟩
theorem nput_same (C : CelS) (B : BytS) (l : Int) : (C.put B C.ep l).2.2.ep = C.ep := by
  unfold CelS.put
  repeat' split
  all_goals dsimp only
  all_goals simp
theorem rnew_ok {k b : Nat} {a : Option Addr} {c : Nat} {xs : List RuleS} (id : Int) (hid : id = 0 ∨ id = 1) (hb : Blk w b 171 (encRB R)) (hA : Alike R B) (hB : BOk B) (hR : ROk R k) (hk : k ≤ 50000000) :
    CallC Tryz.prog 69 #[.int .i64 id, .pointer (some ⟨b, 0, none⟩), .slice a xs.length c] w fun v w' => ∃ R', Alike R' (newN id B xs).2.2 ∧ ROk R' (k + 18) ∧
      (((newN id B xs).1 = 0 ∧ ∃ A : RNodeA, A.b = b ∧ A.ra = a ∧ A.rc = c ∧ v = .tuple #[.pointer (some ⟨A.n, 0, none⟩), .int .i64 0] ∧ Turns w w' [blk b 171 (encRB R)] (rnodeH A (newN id B xs).2.1 R')) ∨
      ((newN id B xs).1 ≠ 0 ∧ v = .tuple #[.pointer none, .int .i64 ((newN id B xs).1 : Nat)] ∧ Ext (· = b) w w' ∧ Blk w' b 171 (encRB R'))) := by
  have hH : Has w [blk b 171 (encRB R)] := ((St.start w (· = b)).add (blk_local b _ _) hb (by simp [blk]; exact hb.lt) (by simp)).has
  have hin : ∀ d, inF [blk b 171 (encRB R)] d → d = b := fun d ⟨e, he, hd⟩ => by
    obtain rfl := List.mem_singleton.1 he
    exact List.mem_singleton.1 hd
  have hS := hH.start
  clear hb
  refine fn_intro tabOk Tryz.func69 (by kernel_rfl) rfl Tryz.ntmps69 (Nat.le_of_ble_eq_true rfl) ?_
  (conv => whnf)
  refine (ropen_ok (hS.blk 0 rfl) hR.len).mono ?_
  rintro v w3 ⟨bc, rfl, hbc, hx', hB1⟩
  replace hS := hS.made hx' (blk_local _ _ _) hB1 (by simp [blk]; exact ⟨hbc, hB1.lt⟩)
  clear hx' hB1
  have hlt := openN_lt R.data 2
  have hnew : newN id B xs = (((openS R.data).put B (openS R.data).ep ((openS R.data).li + 1)).1, .born id ((openS R.data).put B (openS R.data).ep ((openS R.data).li + 1)).2.2 xs, ((openS R.data).put B (openS R.data).ep ((openS R.data).li + 1)).2.1) := by rw [hA.data]; rfl
  rw [hnew]
  generalize hC : openS R.data = C at hS ⊢
  have hlt : C.num < 4294967296 ∧ C.ep < 4294967296 ∧ C.li < 4294967296 := by rw [← hC]; exact hlt
  clear hnew hC
  (conv => whnf)
  refine drawI tabOk mixed [8] (fun w1 w' => Ext (fun d => d = b ∨ d = bc) w1 w' ∧ ∃ C' : CelS, C'.ep = C.ep ∧ Blk w' bc 175 (encCl b C')) [0, 1, 2, 3, 4, 5, 6, 7, 8, 9, 10, 11] (by kernel_rfl) ?_
  rintro w1 rfl
  replace hS := hS.drew
  refine ⟨⟨Ext.refl _ _, C, rfl, hS.blk 1 rfl⟩, ?_⟩
  have hK := hS.ref (fun d => d = b ∨ d = bc)
  (conv => whnf)
  refine ⟨.int .i64 C.ep, fun w' h => by obtain ⟨_, C', h1, h2⟩ := h; rw [h2.cell, ← h1]; rfl, ?_⟩
  (conv => whnf)
  refine hS.ld 1 rfl rfl ?_
  refine KeepC.mk ⟨hK, C, rfl, hS.blk 1 rfl⟩ ?_
  (conv => whnf)
  refine RngC.mk (by omega) (by omega) ?_
  (conv => whnf)
  refine (rcput_ok C.ep (C.li + 1) (hS.blk 1 rfl) (hS.blk 0 rfl) hA hB hR hk hlt.1).mono ?_
  rintro v w6 ⟨rfl, hx', R', hA', hR', hB1, hC1⟩
  have hep := nput_ep0 C B C.ep (C.li + 1)
  refine KeepC.mk ⟨hK.trans hx', _, nput_same _ _ _, hC1⟩ ?_
  have hS2 := Ev.St.upd2 hS hx' (by simp [blk]) (blk_local _ _ _) hB1 rfl (blk_local _ _ _) hC1 rfl
  clear hS hB1 hC1 hx' hK
  generalize C.put B C.ep (C.li + 1) = Q at hS2 hep hA' ⊢
  obtain ⟨e, B2, C2⟩ := Q
  have hS : St w (inF [blk b 171 (encRB R)]) w6 [blk b 171 (encRB R'), blk bc 175 (encCl b C2)] := hS2
  clear hS2
  dsimp only at hep hA' ⊢
  by_cases he : e = 0
  case neg =>
    (conv => whnf)
    refine brD (fun _ => ?_) (fun h => absurd (show (e : Int) > 0 by omega) h)
    repeat' ((conv => whnf); first | refine RetC.mk ?_ | refine NzC.mk (by decide) ?_ | refine RngC.mk (by omega) (by omega) ?_ | refine IdxC.mk (by omega) (by omega) ?_ | refine brD (fun _ => ?_) (fun _ => ?_) | refine brND (fun _ => ?_) (fun _ => ?_) | refine brN (fun _ => ?_) (fun _ => ?_) | refine brI (fun _ => ?_) (fun _ => ?_))
    exact ⟨R', hA', hR', .inr ⟨he, rfl, hS.ext.mono hin, hS.blk 0 rfl⟩⟩
  subst he
  obtain ⟨he, _⟩ := hep rfl
  (conv => whnf)
  refine DrawC.cut (fun σ w' => ∃ br bt tg tc bm mg mc bn, σ = [(10, .pointer (some ⟨bn, 0, none⟩))] ∧ St w (inF [blk b 171 (encRB R)]) w' [refM bm mg mc ⟨0, emptyCells⟩, blk b 171 (encRB R'), blk bc 175 (encCl b C2), blk br 178 (encRole ⟨id, C2.ep, 0, false⟩), refT bt tg tc ⟨2000 + id * 24, emptyCells⟩, blk bn 186 [.int .i64 id, .int .i64 0, .pointer (some ⟨bc, 0, none⟩), .pointer (some ⟨br, 0, none⟩), .pointer (some ⟨bt, 0, none⟩), .pointer none, .pointer (some ⟨bm, 0, none⟩), .slice a xs.length c]]) ?_ ?_
  · refine drawT tabOk mixed [] (No) (.take 0 (.take 1 (.take 2 (.take 3 (.take 4 (.take 5 (.take 6 (.take 7 (.take 9 (.take 14 (.alt 8 (.alt 10 (.alt 11 (.take 12 (.alt 13 (.take 15 (.alt 16 (.take 17 .fin) .fin)) .fin)) .fin) .fin) (.alt 10 (.alt 8 (.alt 11 (.take 12 (.alt 13 (.take 15 (.alt 16 (.take 17 .fin) .fin)) .fin)) .fin) (.alt 11 (.take 12 (.alt 8 (.alt 13 (.take 15 (.alt 16 (.take 17 .fin) .fin)) .fin) (.alt 13 (.alt 8 (.take 15 (.alt 16 (.take 17 .fin) .fin)) .fin) .fin))) .fin)) .fin)))))))))))) (by kernel_rfl) ?_
    rintro w1 rfl
    replace hS := hS.drew
    have hK := hS.ref No
    repeat' ((conv => whnf); first | refine And.intro ?_ ?_ | refine hS.ldF 1 rfl rfl (fun h => h) ?_ | (refine hS.newK hK (fun bw w' hK hS => KeepC.mk hK ?_)) | (refine (newTable_ok id hid _).mono ?_; rintro v w' ⟨bt, tg, tc, rfl, hx', hT, hf⟩; replace hS := hS.made hx' refT_local hT hf; replace hK := hK.trans hx'; clear hx' hT hf; refine KeepC.mk hK ?_) | (refine (empty_ok _).mono ?_; rintro v w' ⟨mg, mc, rfl, hx', ho, hf⟩; replace hS := hS.made hx' ownL_local ho (fun g hg => hf g (by simpa [ownL, own] using hg)); replace hK := hK.trans hx'; clear hx' ho hf; refine KeepC.mk hK ?_))
    all_goals first
      | exact CutE.mk ⟨[(10, _)], ⟨rfl, trivial⟩, _, _, _, _, _, _, _, _, rfl, (hS.sel [5, 4, 0, 1, 2, 3, 6] (by decide)).mergeM⟩
      | exact CutE.mk ⟨[(10, _)], ⟨rfl, trivial⟩, _, _, _, _, _, _, _, _, rfl, (hS.sel [5, 4, 0, 1, 3, 2, 6] (by decide)).mergeM⟩
      | exact CutE.mk ⟨[(10, _)], ⟨rfl, trivial⟩, _, _, _, _, _, _, _, _, rfl, (hS.sel [5, 3, 0, 1, 4, 2, 6] (by decide)).mergeM⟩
      | exact CutE.mk ⟨[(10, _)], ⟨rfl, trivial⟩, _, _, _, _, _, _, _, _, rfl, (hS.sel [4, 3, 0, 1, 5, 2, 6] (by decide)).mergeM⟩
      | trace_state
  clear hS
  rintro _ w7 ⟨br, bt, tg, tc, bm, mg, mc, bn, rfl, hS⟩
  (conv => whnf)
  refine hS.ld 5 rfl rfl ?_
  (conv => whnf)
  refine (rlNew_ok _).mono ?_
  rintro v w8 ⟨bx, xg, xc, rfl, hx', hL, hf⟩
  replace hS := hS.made hx' refL_local hL hf
  (conv => whnf)
  refine hS.st 5 rfl (Nat.le_of_ble_eq_true rfl) rfl (fun w' hS => ?_)
  have hS2 := hS.sel [5, 3, 2, 4, 6, 0, 1] (by decide)
  repeat' ((conv => whnf); first | refine RetC.mk ?_ | refine NzC.mk (by decide) ?_ | refine RngC.mk (by omega) (by omega) ?_ | refine IdxC.mk (by omega) (by omega) ?_ | refine brD (fun _ => ?_) (fun _ => ?_) | refine brND (fun _ => ?_) (fun _ => ?_) | refine brN (fun _ => ?_) (fun _ => ?_) | refine brI (fun _ => ?_) (fun _ => ?_))
  exact ⟨R', hA', hR', .inl ⟨rfl, ⟨bn, br, bc, bt, tg, tc, bx, xg, xc, bm, mg, mc, b, a, c⟩, rfl, rfl, rfl, rfl, St.turns hS2⟩⟩
end
end Go.Proofs.YtoaghhcjlfiflaaGreatDoor

namespace Go.Proofs.YtoaghhcjlfiflaaGreatDoor
open Go Ev
structure RWorldA where
  w : Nat
  na : Option Addr
  nc : Nat
  ba : Option Addr
  bc : Nat
  ra : Option Addr
  rc : Nat
  la : Option Addr
  lc : Nat
  vs : List NoteV
  ea : Option Addr
  ec : Nat
  a : RNodeA
  b : RNodeA
def RWorldA.side (Y : RWorldA) (n : Int) : RNodeA := if n = 0 then Y.a else Y.b
def RWorldA.setSide (Y : RWorldA) (n : Int) (A : RNodeA) : RWorldA := if n = 0 then { Y with a := A } else { Y with b := A }
structure RBys where
  a : RBy
  b : RBy
def RBys.side (R : RBys) (n : Int) : RBy := if n = 0 then R.a else R.b
def RBys.setSide (R : RBys) (n : Int) (s : RBy) : RBys := if n = 0 then { R with a := s } else { R with b := s }
def encP (p : Option Addr) : List Value := [.pointer p]
theorem codP : Codec 1 encP := ⟨fun _ => rfl, fun _ => rfl, by decide⟩
def rnodeP (A : RNodeA) (s : SideS) : Option Addr := match s.node with | some _ => some ⟨A.n, 0, none⟩ | none => none
def two (n : Int) (p q : Option Addr) : List (Option Addr) := if n = 0 then [p, q] else [q, p]
def encRW (Y : RWorldA) (W : WorldS) : List Value := [.slice Y.na 2 Y.nc, .slice Y.ba 2 Y.bc, .slice Y.ra W.rules.length Y.rc, .slice Y.la W.fly.length Y.lc, .int .i64 W.to, .int .i64 W.epoch, .slice Y.ea W.events.length Y.ec]
def rsideH (A : RNodeA) (s : SideS) (R : RBy) : List Ent := match s.node with
  | some N => rnodeH A N R
  | none => [blk A.b 171 (encRB R)]
def rfixH (Y : RWorldA) (W : WorldS) (np bp : List (Option Addr)) : List Ent := [blk Y.w 123 (encRW Y W), ownL 126 1 encP (.slice Y.na 2 Y.nc) np, ownL 124 1 encP (.slice Y.ba 2 Y.bc) bp, ownL 134 5 encNV (.slice Y.la W.fly.length Y.lc) Y.vs, cellsE Y.vs W.fly, ownL 135 2 encEv (.slice Y.ea W.events.length Y.ec) W.events]
def byP (A : RNodeA) : Option Addr := some ⟨A.b, 0, none⟩
def rworldH (Y : RWorldA) (W : WorldS) (R : RBys) : List Ent := rfixH Y W [rnodeP Y.a W.a, rnodeP Y.b W.b] [byP Y.a, byP Y.b] ++ (rsideH Y.a W.a R.a ++ rsideH Y.b W.b R.b)
def rhalfH (Y : RWorldA) (W : WorldS) (R : RBys) (n : Int) : List Ent := rfixH Y W (two n (rnodeP (Y.side n) (W.side n)) (rnodeP (Y.side (1 - n)) (W.side (1 - n)))) (two n (byP (Y.side n)) (byP (Y.side (1 - n)))) ++ rsideH (Y.side n) (W.side n) (R.side n)
theorem rhalf_perm (Y : RWorldA) (W : WorldS) (R : RBys) {n : Int} (hn : n = 0 ∨ n = 1) : (rworldH Y W R).Perm (rhalfH Y W R n ++ rsideH (Y.side (1 - n)) (W.side (1 - n)) (R.side (1 - n))) := by
  rcases hn with rfl | rfl
  · unfold rworldH rhalfH
    rw [List.append_assoc]
    exact List.Perm.refl _
  · unfold rworldH rhalfH
    rw [List.append_assoc]
    exact List.Perm.append_left _ List.perm_append_comm
theorem two_get {n : Int} (hn : n = 0 ∨ n = 1) (p q : Option Addr) : (two n p q)[n.toNat]? = some p := by
  rcases hn with rfl | rfl <;> rfl
theorem two_set {n : Int} (hn : n = 0 ∨ n = 1) (p q r : Option Addr) : (two n p q).set n.toNat r = two n r q := by
  rcases hn with rfl | rfl <;> rfl
section
variable {w w' w0 : World} {Y : RWorldA} {W : WorldS} {R : RBys} {m j : Nat}
def RulesAt (w0 : World) (a : Option Addr) (n : Nat) (xs : List RuleS) : Prop := Slc w0 5 encRule (fun _ => True) a n xs
structure RSide (w0 : World) (j : Nat) (A : RNodeA) (s : SideS) (R : RBy) : Prop where
  alike : Alike R s.byt
  rok : ROk R j
  rules : ∀ N, s.node = some N → RulesAt w0 A.ra N.rules.length N.rules
structure RStands (w0 : World) (m j : Nat) (w : World) (Y : RWorldA) (W : WorldS) (R : RBys) : Prop where
  has : Has w (rworldH Y W R)
  ok : WOk m W
  ext : Ext No w0 w
  new : ∀ b, inF (rworldH Y W R) b → w0.heap.size ≤ b
  rules : RulesAt w0 Y.ra W.rules.length W.rules
  a : RSide w0 j Y.a W.a R.a
  b : RSide w0 j Y.b W.b R.b
theorem RSide.le {A : RNodeA} {s : SideS} {B : RBy} (h : RSide w0 j A s B) {k : Nat} (hk : j ≤ k) : RSide w0 k A s B := ⟨h.alike, h.rok.le hk, h.rules⟩
theorem RStands.side (h : RStands w0 m j w Y W R) {n : Int} (hn : n = 0 ∨ n = 1) : RSide w0 j (Y.side n) (W.side n) (R.side n) := by
  rcases hn with rfl | rfl
  · exact h.a
  · exact h.b
theorem RStands.half (h : RStands w0 m j w Y W R) {n : Int} (hn : n = 0 ∨ n = 1) : Has w (rhalfH Y W R n) := (h.has.perm (rhalf_perm Y W R hn)).left
theorem RulesAt.out {a : Option Addr} {n : Nat} {xs : List RuleS} (h : RulesAt w0 a n xs) {H : List Ent} (hf : ∀ b, inF H b → w0.heap.size ≤ b) : 0 < n → ∀ b0 o0, a = some ⟨b0, o0, none⟩ → ¬ inF H b0 := fun h0 b0 o0 ha hb => by
  obtain ⟨b1, o1, x, _, _, h3, h4, _⟩ := Slc.at h h0
  rw [ha] at h3
  simp only [Option.some.injEq, Addr.mk.injEq] at h3
  obtain ⟨rfl, _⟩ := h3
  have := hf _ hb
  omega
theorem RStands.turns (h : RStands w0 m j w Y W R) {m' j' : Nat} {Y' : RWorldA} {W' : WorldS} {R' : RBys} (k : Turns w w' (rworldH Y W R) (rworldH Y' W' R')) (ok : WOk m' W') (hr : RulesAt w0 Y'.ra W'.rules.length W'.rules) (ha : RSide w0 j' Y'.a W'.a R'.a) (hb : RSide w0 j' Y'.b W'.b R'.b) : RStands w0 m' j' w' Y' W' R' :=
  ⟨k.has, ok, h.ext.then k.ext fun b hb => .inr (h.new b hb), fun b ⟨e, he, hb⟩ => (k.foot e he b hb).elim (h.new b) fun g => Nat.le_trans h.ext.size g, hr, ha, hb⟩
theorem RStands.no (h : RStands w0 m j w Y W R) (hx : Ext No w w') : RStands w0 m j w' Y W R := h.turns (Turns.of_no h.has hx) h.ok h.rules h.a h.b
theorem rside_set {n : Int} (hn : n = 0 ∨ n = 1) (A : RNodeA) (s : SideS) (B : RBy) : (Y.setSide n A).side n = A ∧ (Y.setSide n A).side (1 - n) = Y.side (1 - n) ∧ (R.setSide n B).side n = B ∧ (R.setSide n B).side (1 - n) = R.side (1 - n) := by
  rcases hn with rfl | rfl <;> exact ⟨rfl, rfl, rfl, rfl⟩
theorem rhalf_set {n : Int} (hn : n = 0 ∨ n = 1) (A : RNodeA) (s : SideS) (B : RBy) : rhalfH (Y.setSide n A) (W.setSide n s) (R.setSide n B) n = rfixH Y W (two n (rnodeP A s) (rnodeP (Y.side (1 - n)) (W.side (1 - n)))) (two n (byP A) (byP (Y.side (1 - n)))) ++ rsideH A s B := by
  rcases hn with rfl | rfl <;> rfl
theorem RTurns.world {n : Int} (hn : n = 0 ∨ n = 1) (h : Has w (rworldH Y W R)) {Y' : RWorldA} {W' : WorldS} {R' : RBys} (k : Turns w w' (rhalfH Y W R n) (rhalfH Y' W' R' n)) (hy : Y'.side (1 - n) = Y.side (1 - n)) (hw : W'.side (1 - n) = W.side (1 - n)) (hr : R'.side (1 - n) = R.side (1 - n)) : Turns w w' (rworldH Y W R) (rworldH Y' W' R') := by
  have h1 := h.perm (rhalf_perm Y W R hn)
  have h2 := Turns.frame h1 k
  rw [← hy, ← hw, ← hr] at h2
  have h3 := rhalf_perm Y' W' R' hn
  have h4 : (rhalfH Y W R n ++ rsideH (Y'.side (1 - n)) (W'.side (1 - n)) (R'.side (1 - n))).Perm (rworldH Y W R) := by
    rw [hy, hw, hr]
    exact (rhalf_perm Y W R hn).symm
  exact h2.perm h4 h3.symm
theorem RTurns.side (h : Has w (rworldH Y W R)) {n : Int} (hn : n = 0 ∨ n = 1) {A : RNodeA} {s : SideS} {B : RBy} (k : Turns w w' (rhalfH Y W R n) (rfixH Y W (two n (rnodeP A s) (rnodeP (Y.side (1 - n)) (W.side (1 - n)))) (two n (byP A) (byP (Y.side (1 - n)))) ++ rsideH A s B)) : Turns w w' (rworldH Y W R) (rworldH (Y.setSide n A) (W.setSide n s) (R.setSide n B)) := by
  rw [← rhalf_set hn A s B] at k
  have h5 := rside_set (Y := Y) (R := R) hn A s B
  have h6 : (W.setSide n s).side (1 - n) = W.side (1 - n) := by rcases hn with rfl | rfl <;> rfl
  exact RTurns.world hn h k h5.2.1 h6 h5.2.2.2
end
end Go.Proofs.YtoaghhcjlfiflaaGreatDoor

namespace Go.Proofs.YtoaghhcjlfiflaaGreatDoor
open Go Ev
section
variable {w w' w0 : World} {Y : RWorldA} {W : WorldS} {R : RBys} {m j : Nat}
theorem rnodeP_some {A : RNodeA} {s : SideS} {N : NodeS} (h : s.node = some N) : rnodeP A s = some ⟨A.n, 0, none⟩ := by
  unfold rnodeP
  rw [h]
theorem rnodeP_none {A : RNodeA} {s : SideS} (h : s.node = none) : rnodeP A s = none := by
  unfold rnodeP
  rw [h]
theorem rsideH_some {A : RNodeA} {s : SideS} {B : RBy} {N : NodeS} (h : s.node = some N) : rsideH A s B = rnodeH A N B := by
  unfold rsideH
  rw [h]
theorem rsideH_none {A : RNodeA} {s : SideS} {B : RBy} (h : s.node = none) : rsideH A s B = [blk A.b 171 (encRB B)] := by
  unfold rsideH
  rw [h]
theorem rhalf_up {n : Int} {N : NodeS} (h : (W.side n).node = some N) : rhalfH Y W R n = rfixH Y W (two n (some ⟨(Y.side n).n, 0, none⟩) (rnodeP (Y.side (1 - n)) (W.side (1 - n)))) (two n (byP (Y.side n)) (byP (Y.side (1 - n)))) ++ rnodeH (Y.side n) N (R.side n) := by
  unfold rhalfH
  rw [rsideH_some h, rnodeP_some h]
theorem rhalf_down {n : Int} (h : (W.side n).node = none) : rhalfH Y W R n = rfixH Y W (two n none (rnodeP (Y.side (1 - n)) (W.side (1 - n)))) (two n (byP (Y.side n)) (byP (Y.side (1 - n)))) ++ [blk (Y.side n).b 171 (encRB (R.side n))] := by
  unfold rhalfH
  rw [rsideH_none h, rnodeP_none h]
theorem Ev.St.ldTwo {w0 w : World} {S : Nat → Prop} {H : List Ent} (h : St w0 S w H) (i : Nat) {e : TypeId} {b o n' c off : Nat} {n : Int} {p q : Option Addr} {K : Value → Prop} (hn : n = 0 ∨ n = 1) (hi : H[i]? = some (ownL e 1 encP (.slice (some ⟨b, o, none⟩) n' c) (two n p q))) (ho : off = o + n.toNat * 1) (hk : K (.pointer p)) : LdC w b off K := by
  subst ho
  have hs := ownL_slc (G := fun _ => True) codP (h.get i hi) (fun _ _ => trivial)
  obtain ⟨b0, o0, h1, _, hc⟩ := hs.cells n.toNat p (two_get hn p q)
  simp only [Option.some.injEq, Addr.mk.injEq] at h1
  obtain ⟨rfl, rfl, _⟩ := h1
  have h2 := hc 0 (.pointer p) rfl
  exact ⟨_, h2, hk⟩
theorem Ev.St.ldTwoF {w0 w : World} {S T : Nat → Prop} {H : List Ent} (h : St w0 S w H) (i : Nat) {e : TypeId} {b o n' c off : Nat} {n : Int} {p q : Option Addr} {K : Value → Prop} (hn : n = 0 ∨ n = 1) (hi : H[i]? = some (ownL e 1 encP (.slice (some ⟨b, o, none⟩) n' c) (two n p q))) (ho : off = o + n.toNat * 1) (hT : ¬ T b) (hk : K (.pointer p)) : LdF (Ext T w) b off K := by
  subst ho
  have hs := ownL_slc (G := fun _ => True) codP (h.get i hi) (fun _ _ => trivial)
  obtain ⟨b0, o0, h1, _, hc⟩ := hs.cells n.toNat p (two_get hn p q)
  simp only [Option.some.injEq, Addr.mk.injEq] at h1
  obtain ⟨rfl, rfl, _⟩ := h1
  have h2 := hc 0 (.pointer p) rfl
  exact ldFc h2 hT hk
theorem two_own {w : World} {e : TypeId} {a : Option Addr} {c : Nat} {n : Int} {p q : Option Addr} (h : (ownL e 1 encP (.slice a 2 c) (two n p q)).holds w) : ∃ g, a = some ⟨g, 0, none⟩ := by
  rcases own_blk h with ⟨_, h1, _⟩ | ⟨g, _, h1, _⟩
  · cases h1
  · exact ⟨g, h1⟩
theorem rupErr_ok (n : Int) (h : RStands w0 m j w Y W R) : CallC Tryz.prog 113 #[.pointer (some ⟨Y.w, 0, none⟩), .int .i64 n] w fun v w' => v = .int .i64 (W.upErr n : Nat) ∧ w = w' := by
  by_cases hn : n = 0 ∨ n = 1
  · have hH := h.half hn
    have hS := hH.start
    cases hN : (W.side n).node with
    | none =>
      rw [upErr_none hn hN]
      rw [rhalf_down hN] at hS
      obtain ⟨g, hg⟩ := two_own (hS.get 1 rfl)
      refine fn_intro tabOk Tryz.func113 (by kernel_rfl) rfl Tryz.ntmps113 (Nat.le_of_ble_eq_true rfl) ?_
      (conv => whnf)
      refine brD (fun h1 => absurd h1 (by omega)) (fun _ => ?_)
      (conv => whnf)
      refine brD (fun h1 => absurd h1 (by omega)) (fun _ => ?_)
      (conv => whnf)
      refine hS.ld 0 rfl (v := .slice (some ⟨g, 0, none⟩) 2 Y.nc) (by rw [← hg]; rfl) ?_
      (conv => whnf)
      refine IdxC.mk (by omega) (by omega) ?_
      (conv => whnf)
      refine hS.ldTwo 1 hn (by rw [← hg]; rfl) rfl ?_
      repeat' ((conv => whnf); first | refine RetC.mk ?_ | refine NzC.mk (by decide) ?_ | refine RngC.mk (by omega) (by omega) ?_ | refine IdxC.mk (by omega) (by omega) ?_ | refine brD (fun _ => ?_) (fun _ => ?_) | refine brND (fun _ => ?_) (fun _ => ?_) | refine brN (fun _ => ?_) (fun _ => ?_) | refine brI (fun _ => ?_) (fun _ => ?_))
      exact ⟨rfl, rfl⟩
    | some N =>
      rw [upErr_some hn hN]
      rw [rhalf_up hN] at hS
      obtain ⟨g, hg⟩ := two_own (hS.get 1 rfl)
      refine fn_intro tabOk Tryz.func113 (by kernel_rfl) rfl Tryz.ntmps113 (Nat.le_of_ble_eq_true rfl) ?_
      (conv => whnf)
      refine brD (fun h1 => absurd h1 (by omega)) (fun _ => ?_)
      (conv => whnf)
      refine brD (fun h1 => absurd h1 (by omega)) (fun _ => ?_)
      (conv => whnf)
      refine hS.ld 0 rfl (v := .slice (some ⟨g, 0, none⟩) 2 Y.nc) (by rw [← hg]; rfl) ?_
      (conv => whnf)
      refine IdxC.mk (by omega) (by omega) ?_
      (conv => whnf)
      refine hS.ldTwo 1 hn (by rw [← hg]; rfl) rfl ?_
      repeat' ((conv => whnf); first | refine RetC.mk ?_ | refine NzC.mk (by decide) ?_ | refine RngC.mk (by omega) (by omega) ?_ | refine IdxC.mk (by omega) (by omega) ?_ | refine brD (fun _ => ?_) (fun _ => ?_) | refine brND (fun _ => ?_) (fun _ => ?_) | refine brN (fun _ => ?_) (fun _ => ?_) | refine brI (fun _ => ?_) (fun _ => ?_))
      exact ⟨rfl, rfl⟩
  · rw [show W.upErr n = 2 from if_pos (by omega)]
    refine fn_intro tabOk Tryz.func113 (by kernel_rfl) rfl Tryz.ntmps113 (Nat.le_of_ble_eq_true rfl) ?_
    (conv => whnf)
    refine brD (fun h1 => ?_) (fun h1 => ?_)
    · repeat' ((conv => whnf); first | refine RetC.mk ?_ | refine NzC.mk (by decide) ?_ | refine RngC.mk (by omega) (by omega) ?_ | refine IdxC.mk (by omega) (by omega) ?_ | refine brD (fun _ => ?_) (fun _ => ?_) | refine brND (fun _ => ?_) (fun _ => ?_) | refine brN (fun _ => ?_) (fun _ => ?_) | refine brI (fun _ => ?_) (fun _ => ?_))
      exact ⟨rfl, rfl⟩
    · (conv => whnf)
      refine brD (fun h1 => ?_) (fun h1 => by omega)
      repeat' ((conv => whnf); first | refine RetC.mk ?_ | refine NzC.mk (by decide) ?_ | refine RngC.mk (by omega) (by omega) ?_ | refine IdxC.mk (by omega) (by omega) ?_ | refine brD (fun _ => ?_) (fun _ => ?_) | refine brND (fun _ => ?_) (fun _ => ?_) | refine brN (fun _ => ?_) (fun _ => ?_) | refine brI (fun _ => ?_) (fun _ => ?_))
      exact ⟨rfl, rfl⟩
theorem rhandErr_ok (h : RStands w0 m j w Y W R) : CallC Tryz.prog 117 #[.pointer (some ⟨Y.w, 0, none⟩)] w fun v w' => v = .int .i64 (W.handErr : Nat) ∧ w = w' := by
  refine fn_intro tabOk Tryz.func117 (by kernel_rfl) rfl Tryz.ntmps117 (Nat.le_of_ble_eq_true rfl) ?_
  have hS := h.has.start
  (conv => whnf)
  refine hS.ld 0 rfl rfl ?_
  (conv => whnf)
  refine brD (fun h1 => ?_) (fun h1 => ?_)
  · rw [show W.handErr = 4 from if_pos h1]
    repeat' ((conv => whnf); first | refine RetC.mk ?_ | refine NzC.mk (by decide) ?_ | refine RngC.mk (by omega) (by omega) ?_ | refine IdxC.mk (by omega) (by omega) ?_ | refine brD (fun _ => ?_) (fun _ => ?_) | refine brND (fun _ => ?_) (fun _ => ?_) | refine brN (fun _ => ?_) (fun _ => ?_) | refine brI (fun _ => ?_) (fun _ => ?_))
    exact ⟨rfl, rfl⟩
  · rw [show W.handErr = W.upErr W.to from if_neg h1]
    (conv => whnf)
    refine hS.ld 0 rfl rfl ?_
    (conv => whnf)
    refine (rupErr_ok W.to h).mono ?_
    rintro v w1 ⟨rfl, rfl⟩
    repeat' ((conv => whnf); first | refine RetC.mk ?_ | refine NzC.mk (by decide) ?_ | refine RngC.mk (by omega) (by omega) ?_ | refine IdxC.mk (by omega) (by omega) ?_ | refine brD (fun _ => ?_) (fun _ => ?_) | refine brND (fun _ => ?_) (fun _ => ?_) | refine brN (fun _ => ?_) (fun _ => ?_) | refine brI (fun _ => ?_) (fun _ => ?_))
    exact ⟨rfl, rfl⟩
def RDoes (w0 : World) (m j : Nat) (w : World) (Y : RWorldA) (W : WorldS) (R : RBys) (W' : WorldS) (w' : World) : Prop := ∃ Y' R', Y'.w = Y.w ∧ Turns w w' (rworldH Y W R) (rworldH Y' W' R') ∧ RStands w0 m j w' Y' W' R'
theorem RDoes.same (h : RStands w0 m j w Y W R) {m' j' : Nat} (hm : m ≤ m') (hj : j ≤ j') (hx : Ext No w w') : RDoes w0 m' j' w Y W R W w' :=
  ⟨Y, R, rfl, Turns.of_no h.has hx, h.turns (Turns.of_no h.has hx) (h.ok.mono hm) h.rules (h.a.le hj) (h.b.le hj)⟩
theorem RDoes.set (h : RStands w0 m j w Y W R) {n : Int} (hn : n = 0 ∨ n = 1) {A : RNodeA} {s : SideS} {B : RBy} {m' j' : Nat} (k : Turns w w' (rhalfH Y W R n) (rfixH Y W (two n (rnodeP A s) (rnodeP (Y.side (1 - n)) (W.side (1 - n)))) (two n (byP A) (byP (Y.side (1 - n)))) ++ rsideH A s B)) (ok : WOk m' (W.setSide n s)) (hj : j ≤ j') (hs : RSide w0 j' A s B) : RDoes w0 m' j' w Y W R (W.setSide n s) w' := by
  have hT := RTurns.side h.has hn k
  refine ⟨Y.setSide n A, R.setSide n B, by rcases hn with rfl | rfl <;> rfl, hT, ?_⟩
  rcases hn with rfl | rfl
  · exact h.turns hT ok h.rules hs (h.b.le hj)
  · exact h.turns hT ok h.rules (h.a.le hj) hs
theorem Ev.St.stTwo {w0 w : World} {S : Nat → Prop} {H : List Ent} (h : St w0 S w H) (i : Nat) {e : TypeId} {b n' c off : Nat} {n : Int} {p q r : Option Addr} {K : World → Prop} (hn : n = 0 ∨ n = 1) (hi : H[i]? = some (ownL e 1 encP (.slice (some ⟨b, 0, none⟩) n' c) (two n p q))) (ho : off = n.toNat * 1)
    (hk : ∀ w', St w0 S w' (H.set i (ownL e 1 encP (.slice (some ⟨b, 0, none⟩) n' c) (two n r q))) → K w') : StC w b off (encP r) K :=
  h.setL codP i (k := n.toNat) hi (two_get hn p q) ho rfl (fun w' _ hS => hk w' (by rw [two_set hn] at hS; exact hS))
theorem rdown_ok (n : Int) (h : RStands w0 m j w Y W R) : CallC Tryz.prog 71 #[.pointer (some ⟨Y.w, 0, none⟩), .int .i64 n] w fun v w' => v = .int .i64 ((W.down n).1 : Nat) ∧ RDoes w0 m j w Y W R (W.down n).2 w' := by
  refine fn_intro tabOk Tryz.func71 (by kernel_rfl) rfl Tryz.ntmps71 (Nat.le_of_ble_eq_true rfl) ?_
  (conv => whnf)
  refine (rupErr_ok n h).mono ?_
  rintro v w1 ⟨rfl, rfl⟩
  (conv => whnf)
  refine brD (fun hu => ?_) (fun hu => ?_)
  · have hu : W.upErr n = 0 := by omega
    obtain ⟨hn, N, hN⟩ := upErr_in hu
    rw [show W.down n = (0, W.setSide n ⟨none, { (W.side n).byt with off := true }⟩) from if_neg (fun h => h hu), hu]
    have hok : WOk m (W.setSide n ⟨none, { (W.side n).byt with off := true }⟩) := by
      have := h.ok.down n
      rwa [show W.down n = (0, W.setSide n ⟨none, { (W.side n).byt with off := true }⟩) from if_neg (fun h => h hu)] at this
    have hsd := h.side hn
    have hS := (h.half hn).start
    have hT : ∀ {w'}, St w (inF (rhalfH Y W R n)) w' (rfixH Y W (two n none (rnodeP (Y.side (1 - n)) (W.side (1 - n)))) (two n (byP (Y.side n)) (byP (Y.side (1 - n)))) ++ [blk (Y.side n).b 171 (encRB { R.side n with off := true })]) → RDoes w0 m j w Y W R (W.setSide n ⟨none, { (W.side n).byt with off := true }⟩) w' := fun k =>
      RDoes.set h hn (A := Y.side n) (s := ⟨none, { (W.side n).byt with off := true }⟩) (B := { R.side n with off := true }) (St.turns k) hok (Nat.le_refl _) ⟨⟨hsd.alike.data, rfl, hsd.alike.left, hsd.alike.free⟩, ⟨hsd.rok.len, hsd.rok.bnd, hsd.rok.lo, hsd.rok.hi⟩, fun N hN => by cases hN⟩
    generalize hSS : inF (rhalfH Y W R n) = S at hS hT
    rw [rhalf_up hN] at hS
    obtain ⟨g, hg⟩ := two_own (hS.get 1 rfl)
    obtain ⟨g2, hg2⟩ := two_own (hS.get 2 rfl)
    (conv => whnf)
    refine hS.ld 0 rfl (v := .slice (some ⟨g2, 0, none⟩) 2 Y.bc) (by rw [← hg2]; rfl) ?_
    (conv => whnf)
    refine IdxC.mk (by omega) (by omega) ?_
    (conv => whnf)
    refine hS.ldTwo 2 hn (by rw [← hg2]; rfl) rfl ?_
    (conv => whnf)
    refine hS.st 12 rfl (Nat.le_of_ble_eq_true rfl) rfl (fun w2 hS => ?_)
    (conv => whnf)
    refine hS.ld 0 rfl (v := .slice (some ⟨g, 0, none⟩) 2 Y.nc) (by rw [← hg]; rfl) ?_
    (conv => whnf)
    refine IdxC.mk (by omega) (by omega) ?_
    (conv => whnf)
    refine hS.stTwo (r := none) 1 hn (by rw [← hg]; rfl) (by omega) (fun w3 hS => ?_)
    repeat' ((conv => whnf); first | refine RetC.mk ?_ | refine NzC.mk (by decide) ?_ | refine RngC.mk (by omega) (by omega) ?_ | refine IdxC.mk (by omega) (by omega) ?_ | refine brD (fun _ => ?_) (fun _ => ?_) | refine brND (fun _ => ?_) (fun _ => ?_) | refine brN (fun _ => ?_) (fun _ => ?_) | refine brI (fun _ => ?_) (fun _ => ?_))
    refine ⟨rfl, hT ?_⟩
    have hS2 := hS.sel [0, 1, 2, 3, 4, 5, 12] (by decide)
    rw [← hg] at hS2
    exact hS2
  · rw [show W.down n = (W.upErr n, W) from if_pos (by omega)]
    repeat' ((conv => whnf); first | refine RetC.mk ?_ | refine NzC.mk (by decide) ?_ | refine RngC.mk (by omega) (by omega) ?_ | refine IdxC.mk (by omega) (by omega) ?_ | refine brD (fun _ => ?_) (fun _ => ?_) | refine brND (fun _ => ?_) (fun _ => ?_) | refine brN (fun _ => ?_) (fun _ => ?_) | refine brI (fun _ => ?_) (fun _ => ?_))
    exact ⟨rfl, RDoes.same h (Nat.le_refl _) (Nat.le_refl _) (Ext.refl _ _)⟩
def cutR (B : RBy) (k : Int) : RBy := if k < 0 ∨ B.off = true then B else ⟨B.data, B.off, k, true⟩
theorem cut_alike {B : RBy} {C : BytS} (h : Alike B C) (k : Int) : Alike (cutR B k) (cutB C k) := by
  unfold cutR cutB
  by_cases hc : k < 0 ∨ B.off = true
  · rw [if_pos hc, if_pos (by rw [← h.off]; exact hc)]
    exact h
  · rw [if_neg hc, if_neg (by rw [← h.off]; exact hc)]
    exact ⟨h.data, h.off, fun _ => ⟨rfl, by dsimp only; omega⟩, fun h => by cases h⟩
theorem cut_rok {B : RBy} (h : ROk B j) (k : Int) (hk : k ≤ 9223372036854775807) : ROk (cutR B k) j := by
  unfold cutR
  split
  · exact h
  · exact ⟨h.len, fun _ => by dsimp only; omega, by dsimp only; omega, hk⟩
theorem rcut_ok (n k : Int) (hk : k ≤ 9223372036854775807) (h : RStands w0 m j w Y W R) : CallC Tryz.prog 73 #[.pointer (some ⟨Y.w, 0, none⟩), .int .i64 n, .int .i64 k] w fun v w' => v = .int .i64 ((W.cut n k).1 : Nat) ∧ RDoes w0 m j w Y W R (W.cut n k).2 w' := by
  refine fn_intro tabOk Tryz.func73 (by kernel_rfl) rfl Tryz.ntmps73 (Nat.le_of_ble_eq_true rfl) ?_
  (conv => whnf)
  refine (rupErr_ok n h).mono ?_
  rintro v w1 ⟨rfl, rfl⟩
  (conv => whnf)
  refine brD (fun hu => ?_) (fun hu => ?_)
  · rw [show W.cut n k = (W.upErr n, W) from if_pos (by omega)]
    repeat' ((conv => whnf); first | refine RetC.mk ?_ | refine NzC.mk (by decide) ?_ | refine RngC.mk (by omega) (by omega) ?_ | refine IdxC.mk (by omega) (by omega) ?_ | refine brD (fun _ => ?_) (fun _ => ?_) | refine brND (fun _ => ?_) (fun _ => ?_) | refine brN (fun _ => ?_) (fun _ => ?_) | refine brI (fun _ => ?_) (fun _ => ?_))
    exact ⟨rfl, RDoes.same h (Nat.le_refl _) (Nat.le_refl _) (Ext.refl _ _)⟩
  · have hu : W.upErr n = 0 := by omega
    obtain ⟨hn, N, hN⟩ := upErr_in hu
    have hc : W.cut n k = (cutE (W.side n).byt k, W.setSide n ⟨(W.side n).node, cutB (W.side n).byt k⟩) := if_neg (fun h => h hu)
    have hok := h.ok.cut n k hk
    rw [hc] at hok
    rw [hc]
    have hsd := h.side hn
    have hS := (h.half hn).start
    have hT : ∀ {w'}, St w (inF (rhalfH Y W R n)) w' (rfixH Y W (two n (some ⟨(Y.side n).n, 0, none⟩) (rnodeP (Y.side (1 - n)) (W.side (1 - n)))) (two n (byP (Y.side n)) (byP (Y.side (1 - n)))) ++ rnodeH (Y.side n) N (cutR (R.side n) k)) → RDoes w0 m j w Y W R (W.setSide n ⟨(W.side n).node, cutB (W.side n).byt k⟩) w' := fun {w'} hS => by
      refine RDoes.set h hn (A := Y.side n) (s := ⟨(W.side n).node, cutB (W.side n).byt k⟩) (B := cutR (R.side n) k) ?_ hok (Nat.le_refl _) ⟨cut_alike hsd.alike k, cut_rok hsd.rok k hk, fun N hN => hsd.rules N hN⟩
      have := St.turns hS
      rw [rnodeP_some (A := Y.side n) (s := ⟨(W.side n).node, cutB (W.side n).byt k⟩) hN, rsideH_some (A := Y.side n) (s := ⟨(W.side n).node, cutB (W.side n).byt k⟩) hN]
      exact this
    generalize hSS : inF (rhalfH Y W R n) = S at hS hT
    rw [rhalf_up hN] at hS
    obtain ⟨g2, hg2⟩ := two_own (hS.get 2 rfl)
    have ho : cutE (W.side n).byt k = if k < 0 then 2 else if (R.side n).off = true then 7 else 0 := by
      unfold cutE
      rw [hsd.alike.off]
    rw [ho]
    (conv => whnf)
    refine hS.ld 0 rfl (v := .slice (some ⟨g2, 0, none⟩) 2 Y.bc) (by rw [← hg2]; rfl) ?_
    (conv => whnf)
    refine IdxC.mk (by omega) (by omega) ?_
    (conv => whnf)
    refine hS.ldTwo 2 hn (by rw [← hg2]; rfl) rfl ?_
    (conv => whnf)
    refine (rbcut_ok k (hS.blk 12 rfl)).mono ?_
    rintro v w2 ⟨rfl, hx, hB⟩
    replace hS := hS.upd 12 rfl hx (fun c hc => by subst hc; exact List.mem_singleton.2 rfl) (blk_local _ _ _) hB (fun c hc => .inl hc)
    repeat' ((conv => whnf); first | refine RetC.mk ?_ | refine NzC.mk (by decide) ?_ | refine RngC.mk (by omega) (by omega) ?_ | refine IdxC.mk (by omega) (by omega) ?_ | refine brD (fun _ => ?_) (fun _ => ?_) | refine brND (fun _ => ?_) (fun _ => ?_) | refine brN (fun _ => ?_) (fun _ => ?_) | refine brI (fun _ => ?_) (fun _ => ?_))
    exact ⟨rfl, hT hS⟩
theorem rcome_ok (n : Int) (h : RStands w0 m j w Y W R) (hj : j ≤ 50000000) : CallC Tryz.prog 72 #[.pointer (some ⟨Y.w, 0, none⟩), .int .i64 n] w fun v w' => v = .int .i64 ((W.up n).1 : Nat) ∧ RDoes w0 m (j + 18) w Y W R (W.up n).2 w' := by
  by_cases hn : n = 0 ∨ n = 1
  case neg =>
    rw [show W.up n = (2, W) from if_pos (by omega)]
    refine fn_intro tabOk Tryz.func72 (by kernel_rfl) rfl Tryz.ntmps72 (Nat.le_of_ble_eq_true rfl) ?_
    (conv => whnf)
    refine brD (fun h1 => ?_) (fun h1 => ?_)
    · repeat' ((conv => whnf); first | refine RetC.mk ?_ | refine NzC.mk (by decide) ?_ | refine RngC.mk (by omega) (by omega) ?_ | refine IdxC.mk (by omega) (by omega) ?_ | refine brD (fun _ => ?_) (fun _ => ?_) | refine brND (fun _ => ?_) (fun _ => ?_) | refine brN (fun _ => ?_) (fun _ => ?_) | refine brI (fun _ => ?_) (fun _ => ?_))
      exact ⟨rfl, RDoes.same h (Nat.le_refl _) (Nat.le_add_right _ _) (Ext.refl _ _)⟩
    · (conv => whnf)
      refine brD (fun h1 => ?_) (fun h1 => by omega)
      repeat' ((conv => whnf); first | refine RetC.mk ?_ | refine NzC.mk (by decide) ?_ | refine RngC.mk (by omega) (by omega) ?_ | refine IdxC.mk (by omega) (by omega) ?_ | refine brD (fun _ => ?_) (fun _ => ?_) | refine brND (fun _ => ?_) (fun _ => ?_) | refine brN (fun _ => ?_) (fun _ => ?_) | refine brI (fun _ => ?_) (fun _ => ?_))
      exact ⟨rfl, RDoes.same h (Nat.le_refl _) (Nat.le_add_right _ _) (Ext.refl _ _)⟩
  have hsd := h.side hn
  have hBk := (h.ok.side hn).bok
  cases hN : (W.side n).node with
  | some N =>
    rw [show W.up n = (11, W) by unfold WorldS.up; rw [if_neg (by omega), hN]]
    have hS := (h.half hn).start
    generalize hSS : inF (rhalfH Y W R n) = S at hS
    rw [rhalf_up hN] at hS
    obtain ⟨g, hg⟩ := two_own (hS.get 1 rfl)
    refine fn_intro tabOk Tryz.func72 (by kernel_rfl) rfl Tryz.ntmps72 (Nat.le_of_ble_eq_true rfl) ?_
    (conv => whnf)
    refine brD (fun h1 => absurd h1 (by omega)) (fun _ => ?_)
    (conv => whnf)
    refine brD (fun h1 => absurd h1 (by omega)) (fun _ => ?_)
    (conv => whnf)
    refine hS.ld 0 rfl (v := .slice (some ⟨g, 0, none⟩) 2 Y.nc) (by rw [← hg]; rfl) ?_
    (conv => whnf)
    refine IdxC.mk (by omega) (by omega) ?_
    (conv => whnf)
    refine hS.ldTwo 1 hn (by rw [← hg]; rfl) rfl ?_
    repeat' ((conv => whnf); first | refine RetC.mk ?_ | refine NzC.mk (by decide) ?_ | refine RngC.mk (by omega) (by omega) ?_ | refine IdxC.mk (by omega) (by omega) ?_ | refine brD (fun _ => ?_) (fun _ => ?_) | refine brND (fun _ => ?_) (fun _ => ?_) | refine brN (fun _ => ?_) (fun _ => ?_) | refine brI (fun _ => ?_) (fun _ => ?_))
    exact ⟨rfl, RDoes.same h (Nat.le_refl _) (Nat.le_add_right _ _) (Ext.refl _ _)⟩
  | none =>
    have hw : W.up n = if (newN n (onB (W.side n).byt) W.rules).1 ≠ 0 then ((newN n (onB (W.side n).byt) W.rules).1, W.setSide n ⟨none, (newN n (onB (W.side n).byt) W.rules).2.2⟩)
        else (0, W.setSide n ⟨some (newN n (onB (W.side n).byt) W.rules).2.1, (newN n (onB (W.side n).byt) W.rules).2.2⟩) := by
      unfold WorldS.up
      rw [if_neg (by omega), hN]
    have hok := h.ok.up n
    rw [hw] at hok ⊢
    have hS := (h.half hn).start
    have hT : ∀ {w'} {A : RNodeA} {s : SideS} {B : RBy}, RSide w0 (j + 18) A s B → WOk m (W.setSide n s) → St w (inF (rhalfH Y W R n)) w' (rfixH Y W (two n (rnodeP A s) (rnodeP (Y.side (1 - n)) (W.side (1 - n)))) (two n (byP A) (byP (Y.side (1 - n)))) ++ rsideH A s B) → RDoes w0 m (j + 18) w Y W R (W.setSide n s) w' := fun {w'} {A} {s} {B} hs ok hS => RDoes.set h hn (St.turns hS) ok (Nat.le_add_right _ _) hs
    generalize hSS : inF (rhalfH Y W R n) = S at hS hT
    rw [rhalf_down hN] at hS
    obtain ⟨g, hg⟩ := two_own (hS.get 1 rfl)
    obtain ⟨g2, hg2⟩ := two_own (hS.get 2 rfl)
    generalize hNew : newN n (onB (W.side n).byt) W.rules = Q at hok ⊢
    refine fn_intro tabOk Tryz.func72 (by kernel_rfl) rfl Tryz.ntmps72 (Nat.le_of_ble_eq_true rfl) ?_
    (conv => whnf)
    refine brD (fun h1 => absurd h1 (by omega)) (fun _ => ?_)
    (conv => whnf)
    refine brD (fun h1 => absurd h1 (by omega)) (fun _ => ?_)
    (conv => whnf)
    refine hS.ld 0 rfl (v := .slice (some ⟨g, 0, none⟩) 2 Y.nc) (by rw [← hg]; rfl) ?_
    (conv => whnf)
    refine IdxC.mk (by omega) (by omega) ?_
    (conv => whnf)
    refine hS.ldTwo 1 hn (by rw [← hg]; rfl) rfl ?_
    (conv => whnf)
    refine hS.ld 0 rfl (v := .slice (some ⟨g2, 0, none⟩) 2 Y.bc) (by rw [← hg2]; rfl) ?_
    (conv => whnf)
    refine IdxC.mk (by omega) (by omega) ?_
    (conv => whnf)
    refine hS.ldTwo 2 hn (by rw [← hg2]; rfl) rfl ?_
    (conv => whnf)
    refine (rbon_ok (hS.blk 6 rfl)).mono ?_
    rintro v w2 ⟨hx, hB⟩
    replace hS := hS.upd 6 rfl hx (fun c hc => by subst hc; exact List.mem_singleton.2 rfl) (blk_local _ _ _) hB (fun c hc => .inl hc)
    clear hx hB
    have hA : Alike ⟨(R.side n).data, false, (R.side n).left, false⟩ (onB (W.side n).byt) := ⟨hsd.alike.data, rfl, (fun h => by cases h), fun _ => rfl⟩
    have hR : ROk ⟨(R.side n).data, false, (R.side n).left, false⟩ j := ⟨hsd.rok.len, (fun h => by cases h), hsd.rok.lo, hsd.rok.hi⟩
    have hn0 := hS.ne 0 6 rfl rfl (by decide)
    have hm2 : g2 ≠ (Y.side n).b := fun e => hS.apartAt 2 6 rfl rfl (by decide) g2 (foot_own (by rw [hg2]; rfl)) (by rw [e]; exact List.mem_singleton.2 rfl)
    obtain ⟨T, hTT⟩ : ∃ T : Nat → Prop, ∀ d, T d ↔ d = (Y.side n).b := ⟨fun d => d = (Y.side n).b, fun _ => Iff.rfl⟩
    (conv => whnf)
    (refine drawS tabOk mixed [] (T) [0, 1, 2, 3, 4, 5, 6, 7, 8, 9, 10, 11, 12, 13, 14, 15, 16, 17] (by kernel_rfl) ?_; rintro w1 rfl; replace hS := hS.drew)
    have hK := hS.ref T
    (conv => whnf)
    refine hS.ldF 0 rfl (v := .slice (some ⟨g2, 0, none⟩) 2 Y.bc) (by rw [← hg2]; rfl) (fun ht => hn0 ((hTT _).1 ht)) ?_
    (conv => whnf)
    refine IdxC.mk (by omega) (by omega) ?_
    (conv => whnf)
    refine hS.ldTwoF 2 hn (by rw [← hg2]; rfl) rfl (fun ht => hm2 ((hTT _).1 ht)) ?_
    (conv => whnf)
    refine hS.ldF 0 rfl rfl (fun ht => hn0 ((hTT _).1 ht)) ?_
    (conv => whnf)
    refine (rnew_ok n hn (hS.blk 6 rfl) hA (onB_ok hBk) hR hj).mono ?_
    rintro v w6 ⟨R', hAl, hRk, hcase⟩
    rw [hNew] at hAl hcase
    rcases hcase with ⟨h0, A, hAb, hAr, hAc, rfl, hk⟩ | ⟨h0, rfl, hk, hB⟩
    · rw [if_neg (fun h => h h0)] at hok ⊢
      replace hK := hK.trans (hk.ext.mono fun d hd => (hTT d).2 (by obtain ⟨e, he, hd⟩ := hd; obtain rfl := List.mem_singleton.1 he; exact List.mem_singleton.1 hd))
      refine KeepC.mk hK ?_
      have hS2 := St.callAt (A := [_, _, _, _, _, _]) (B := []) hS hk
      (conv => whnf)
      refine hS2.ld 0 rfl (v := .slice (some ⟨g, 0, none⟩) 2 Y.nc) (by rw [← hg]; rfl) ?_
      (conv => whnf)
      refine IdxC.mk (by omega) (by omega) ?_
      (conv => whnf)
      refine hS2.stTwo (r := some ⟨A.n, 0, none⟩) 1 hn (by rw [← hg]; rfl) (by omega) (fun w7 hS3 => ?_)
      repeat' ((conv => whnf); first | refine RetC.mk ?_ | refine NzC.mk (by decide) ?_ | refine RngC.mk (by omega) (by omega) ?_ | refine IdxC.mk (by omega) (by omega) ?_ | refine brD (fun _ => ?_) (fun _ => ?_) | refine brND (fun _ => ?_) (fun _ => ?_) | refine brN (fun _ => ?_) (fun _ => ?_) | refine brI (fun _ => ?_) (fun _ => ?_))
      have hrul : Q.2.1.rules = W.rules := by rw [← hNew]; rfl
      refine ⟨rfl, hT (A := A) (s := ⟨some Q.2.1, Q.2.2⟩) (B := R') ⟨hAl, hRk, fun N hN => ?_⟩ hok ?_⟩
      · obtain rfl := Option.some.inj hN
        rw [hAr, hrul]
        exact h.rules
      · rw [show byP A = byP (Y.side n) by unfold byP; rw [hAb]]
        rw [← hg] at hS3
        exact hS3
    · rw [if_pos h0] at hok ⊢
      replace hK := hK.trans (hk.mono fun d hd => (hTT d).2 hd)
      refine KeepC.mk hK ?_
      have hS2 := hS.upd 6 rfl hk (fun c hc => by subst hc; exact List.mem_singleton.2 rfl) (blk_local _ _ _) hB (fun c hc => .inl hc)
      (conv => whnf)
      refine hS2.ld 0 rfl (v := .slice (some ⟨g, 0, none⟩) 2 Y.nc) (by rw [← hg]; rfl) ?_
      (conv => whnf)
      refine IdxC.mk (by omega) (by omega) ?_
      (conv => whnf)
      refine hS2.stTwo (r := none) 1 hn (by rw [← hg]; rfl) (by omega) (fun w7 hS3 => ?_)
      repeat' ((conv => whnf); first | refine RetC.mk ?_ | refine NzC.mk (by decide) ?_ | refine RngC.mk (by omega) (by omega) ?_ | refine IdxC.mk (by omega) (by omega) ?_ | refine brD (fun _ => ?_) (fun _ => ?_) | refine brND (fun _ => ?_) (fun _ => ?_) | refine brN (fun _ => ?_) (fun _ => ?_) | refine brI (fun _ => ?_) (fun _ => ?_))
      refine ⟨rfl, hT (A := Y.side n) (s := ⟨none, Q.2.2⟩) (B := R') ⟨hAl, hRk, fun N hN => by cases hN⟩ hok ?_⟩
      rw [← hg] at hS3
      exact hS3
end
end Go.Proofs.YtoaghhcjlfiflaaGreatDoor

namespace Go.Proofs.YtoaghhcjlfiflaaGreatDoor
open Go Ev
section
variable {w w' w0 : World} {Y : RWorldA} {W : WorldS} {R : RBys} {m j : Nat}
theorem inside_rules (N : NodeS) (p : PktS) : (N.inside p).2.2.rules = N.rules := by
  unfold NodeS.inside NodeS.begin NodeS.pass
  repeat' split
  all_goals rfl
theorem outside_rules (N : NodeS) (p : PktS) : (N.outside p).2.2.rules = N.rules := by
  unfold NodeS.outside NodeS.pass
  repeat' split
  all_goals rfl
theorem rinsideW_ok (p : PktS) (h : RStands w0 m j w Y W R) (hm : m + 1 ≤ 40000000) : CallC Tryz.prog 74 #[.pointer (some ⟨Y.w, 0, none⟩), .agg (encPkt p).toArray, .bool true] w fun v w' => v = .tuple #[.agg (encPkt (W.inside p).2.1).toArray, .int .i64 ((W.inside p).1 : Nat)] ∧ RDoes w0 (m + 1) j w Y W R (W.inside p).2.2 w' := by
  by_cases hu : W.handErr = 0
  case neg =>
    rw [show W.inside p = (W.handErr, noPkt, W) from if_pos hu]
    refine fn_intro tabOk Tryz.func74 (by kernel_rfl) rfl Tryz.ntmps74 (Nat.le_of_ble_eq_true rfl) ?_
    have hS := St.start w No
    (conv => whnf)
    refine hS.new (fun bp w1 hbp hS => ?_)
    (conv => whnf)
    refine hS.new (fun br w2 hbr hS => ?_)
    replace hS : St w No w2 [blk bp 36 (encPkt p), blk br 36 (encPkt noPkt)] := hS
    (conv => whnf)
    refine (rhandErr_ok (h.no hS.ext)).mono ?_
    rintro v w3 ⟨rfl, rfl⟩
    (conv => whnf)
    refine brD (fun _ => ?_) (fun h1 => absurd (show W.handErr = 0 by omega) hu)
    (conv => whnf)
    refine hS.st 1 rfl (Nat.le_of_ble_eq_true rfl) rfl (fun w' hS => ?_)
    (conv => whnf)
    refine hS.laX 1 rfl rfl ?_
    repeat' ((conv => whnf); first | refine RetC.mk ?_ | refine NzC.mk (by decide) ?_ | refine RngC.mk (by omega) (by omega) ?_ | refine IdxC.mk (by omega) (by omega) ?_ | refine brD (fun _ => ?_) (fun _ => ?_) | refine brND (fun _ => ?_) (fun _ => ?_) | refine brN (fun _ => ?_) (fun _ => ?_) | refine brI (fun _ => ?_) (fun _ => ?_))
    exact ⟨rfl, RDoes.same h (Nat.le_add_right _ _) (Nat.le_refl _) hS.ext⟩
  obtain ⟨hn, N, hN⟩ := h.ok.hand hu
  have hnk := ((h.ok.side hn).node N hN).1
  have hw : W.inside p = ((N.inside p).1, (N.inside p).2.1, W.setSide W.to ⟨some (N.inside p).2.2, (W.side W.to).byt⟩) := by
    unfold WorldS.inside
    rw [if_neg (fun h => h hu), hN]
  have hok := h.ok.inside p
  rw [hw] at hok ⊢
  have hsd := h.side hn
  have hrl := hsd.rules N hN
  have hrls := inside_rules N p
  have hT : ∀ {w'}, St w (inF (rhalfH Y W R W.to)) w' (rfixH Y W (two W.to (some ⟨(Y.side W.to).n, 0, none⟩) (rnodeP (Y.side (1 - W.to)) (W.side (1 - W.to)))) (two W.to (byP (Y.side W.to)) (byP (Y.side (1 - W.to)))) ++ rnodeH (Y.side W.to) (N.inside p).2.2 (R.side W.to)) → RDoes w0 (m + 1) j w Y W R (W.setSide W.to ⟨some (N.inside p).2.2, (W.side W.to).byt⟩) w' := fun {w'} hS =>
    RDoes.set h hn (A := Y.side W.to) (s := ⟨some (N.inside p).2.2, (W.side W.to).byt⟩) (B := R.side W.to) (St.turns hS) hok (Nat.le_refl _) ⟨hsd.alike, hsd.rok, fun M hM => by
      obtain rfl := Option.some.inj hM
      rw [hrls]
      exact hrl⟩
  have hS := (h.half hn).start
  have hst : ∀ {w2}, St w (inF (rhalfH Y W R W.to)) w2 (rhalfH Y W R W.to) → RStands w0 m j w2 Y W R := fun hS => h.turns (RTurns.world hn h.has (St.turns hS) rfl rfl rfl) h.ok h.rules h.a h.b
  have hnew : ∀ b, inF (rhalfH Y W R W.to) b → w0.heap.size ≤ b := fun b hb => h.new b (inF_perm (rhalf_perm Y W R hn).symm (inF_app.2 (.inl hb)))
  generalize hSS : inF (rhalfH Y W R W.to) = S at hS hT hst
  rw [rhalf_up hN] at hS hst hnew
  obtain ⟨g, hg⟩ := two_own (hS.get 1 rfl)
  refine fn_intro tabOk Tryz.func74 (by kernel_rfl) rfl Tryz.ntmps74 (Nat.le_of_ble_eq_true rfl) ?_
  (conv => whnf)
  refine hS.new (fun bp w1 hbp hS => ?_)
  (conv => whnf)
  refine hS.new (fun br w2 hbr hS => ?_)
  have hst2 := hst (hS.keep 13)
  (conv => whnf)
  refine (rhandErr_ok hst2).mono ?_
  rintro v w3 ⟨rfl, rfl⟩
  rw [hu]
  have hs0 := hS.notin 0 6 7 rfl (List.mem_singleton.2 rfl) (.inl (by decide))
  have hs1 := hS.notin 1 6 7 (b := g) rfl (foot_own (by rw [hg]; rfl)) (.inl (by decide))
  have hp := hS.notin 13 6 7 rfl (List.mem_singleton.2 rfl) (.inr (by decide))
  have hs02 := hS.ne 0 14 rfl rfl (by decide)
  have hs12 : g ≠ br := fun e => hS.apartAt 1 14 rfl rfl (by decide) g (foot_own (by rw [hg]; rfl)) (by rw [e]; exact List.mem_singleton.2 rfl)
  have hp2 := hS.ne 13 14 rfl rfl (by decide)
  generalize W.setSide W.to ⟨some (N.inside p).2.2, (W.side W.to).byt⟩ = W' at hT ⊢
  have hrx : RulesAt w0 (Y.side W.to).ra N.rules.length N.rules := hrl
  have hE0 : Ext No w0 w2 := hst2.ext
  clear hst hst2
  (conv => whnf)
  (refine drawS tabOk mixed [] (fun b => inF (rnodeH (Y.side W.to) N (R.side W.to)) b ∨ b = br) [0, 1, 2, 3, 4, 5, 6, 7, 8, 9, 10, 11, 12, 13, 14, 15] (by kernel_rfl) ?_; rintro w1 rfl; replace hS := hS.drew)
  have hK := hS.ref (fun b => inF (rnodeH (Y.side W.to) N (R.side W.to)) b ∨ b = br)
  (conv => whnf)
  refine hS.ldF 0 rfl (v := .slice (some ⟨g, 0, none⟩) 2 Y.nc) (by rw [← hg]; rfl) (fun h => h.elim hs0 hs02) ?_
  (conv => whnf)
  refine hS.ldF 0 rfl rfl (fun h => h.elim hs0 hs02) ?_
  (conv => whnf)
  refine IdxC.mk (by omega) (by omega) ?_
  (conv => whnf)
  refine hS.ldTwoF 1 hn (by rw [← hg]; rfl) rfl (fun h => h.elim hs1 hs12) ?_
  (conv => whnf)
  refine hS.laXF 13 rfl rfl (fun h => h.elim hp hp2) ?_
  (conv => whnf)
  have hw3 : Has _ (rnodeH (Y.side W.to) N (R.side W.to)) := Has.left (B := [_, _]) (Has.right (A := [_, _, _, _, _, _]) hS.has)
  have hout := hrx.out (H := rnodeH (Y.side W.to) N (R.side W.to)) (fun b hb => hnew b (inF_app.2 (.inr hb)))
  refine (rinside_ok p hw3 hnk hm (Slc.no hrx (hE0.trans (Ext.drawn _ _ _))) hout).mono ?_
  rintro v w' ⟨rfl, hk⟩
  replace hS := St.callAt (A := [_, _, _, _, _, _]) (B := [_, _]) hS hk
  replace hK := hK.trans (hk.ext.mono fun b hb => .inl hb)
  refine KeepC.mk hK ?_
  (conv => whnf)
  refine hS.stK hK 14 rfl (Nat.le_of_ble_eq_true rfl) rfl (.inr rfl) (fun w' hK hS => KeepC.mk hK ?_)
  (conv => whnf)
  refine hS.laX 14 rfl rfl ?_
  repeat' ((conv => whnf); first | refine RetC.mk ?_ | refine NzC.mk (by decide) ?_ | refine RngC.mk (by omega) (by omega) ?_ | refine IdxC.mk (by omega) (by omega) ?_ | refine brD (fun _ => ?_) (fun _ => ?_) | refine brND (fun _ => ?_) (fun _ => ?_) | refine brN (fun _ => ?_) (fun _ => ?_) | refine brI (fun _ => ?_) (fun _ => ?_))
  exact ⟨rfl, hT (hS.keep 13)⟩
theorem routsideW_ok (p : PktS) (h : RStands w0 m j w Y W R) (hm : m + 1 ≤ 40000000) : CallC Tryz.prog 74 #[.pointer (some ⟨Y.w, 0, none⟩), .agg (encPkt p).toArray, .bool false] w fun v w' => v = .tuple #[.agg (encPkt (W.outside p).2.1).toArray, .int .i64 ((W.outside p).1 : Nat)] ∧ RDoes w0 (m + 1) j w Y W R (W.outside p).2.2 w' := by
  by_cases hu : W.handErr = 0
  case neg =>
    rw [show W.outside p = (W.handErr, noPkt, W) from if_pos hu]
    refine fn_intro tabOk Tryz.func74 (by kernel_rfl) rfl Tryz.ntmps74 (Nat.le_of_ble_eq_true rfl) ?_
    have hS := St.start w No
    (conv => whnf)
    refine hS.new (fun bp w1 hbp hS => ?_)
    (conv => whnf)
    refine hS.new (fun br w2 hbr hS => ?_)
    replace hS : St w No w2 [blk bp 36 (encPkt p), blk br 36 (encPkt noPkt)] := hS
    (conv => whnf)
    refine (rhandErr_ok (h.no hS.ext)).mono ?_
    rintro v w3 ⟨rfl, rfl⟩
    (conv => whnf)
    refine brD (fun _ => ?_) (fun h1 => absurd (show W.handErr = 0 by omega) hu)
    (conv => whnf)
    refine hS.st 1 rfl (Nat.le_of_ble_eq_true rfl) rfl (fun w' hS => ?_)
    (conv => whnf)
    refine hS.laX 1 rfl rfl ?_
    repeat' ((conv => whnf); first | refine RetC.mk ?_ | refine NzC.mk (by decide) ?_ | refine RngC.mk (by omega) (by omega) ?_ | refine IdxC.mk (by omega) (by omega) ?_ | refine brD (fun _ => ?_) (fun _ => ?_) | refine brND (fun _ => ?_) (fun _ => ?_) | refine brN (fun _ => ?_) (fun _ => ?_) | refine brI (fun _ => ?_) (fun _ => ?_))
    exact ⟨rfl, RDoes.same h (Nat.le_add_right _ _) (Nat.le_refl _) hS.ext⟩
  obtain ⟨hn, N, hN⟩ := h.ok.hand hu
  have hnk := ((h.ok.side hn).node N hN).1
  have hw : W.outside p = ((N.outside p).1, (N.outside p).2.1, W.setSide W.to ⟨some (N.outside p).2.2, (W.side W.to).byt⟩) := by
    unfold WorldS.outside
    rw [if_neg (fun h => h hu), hN]
  have hok := h.ok.outside p
  rw [hw] at hok ⊢
  have hsd := h.side hn
  have hrl := hsd.rules N hN
  have hrls := outside_rules N p
  have hT : ∀ {w'}, St w (inF (rhalfH Y W R W.to)) w' (rfixH Y W (two W.to (some ⟨(Y.side W.to).n, 0, none⟩) (rnodeP (Y.side (1 - W.to)) (W.side (1 - W.to)))) (two W.to (byP (Y.side W.to)) (byP (Y.side (1 - W.to)))) ++ rnodeH (Y.side W.to) (N.outside p).2.2 (R.side W.to)) → RDoes w0 (m + 1) j w Y W R (W.setSide W.to ⟨some (N.outside p).2.2, (W.side W.to).byt⟩) w' := fun {w'} hS =>
    RDoes.set h hn (A := Y.side W.to) (s := ⟨some (N.outside p).2.2, (W.side W.to).byt⟩) (B := R.side W.to) (St.turns hS) hok (Nat.le_refl _) ⟨hsd.alike, hsd.rok, fun M hM => by
      obtain rfl := Option.some.inj hM
      rw [hrls]
      exact hrl⟩
  have hS := (h.half hn).start
  have hst : ∀ {w2}, St w (inF (rhalfH Y W R W.to)) w2 (rhalfH Y W R W.to) → RStands w0 m j w2 Y W R := fun hS => h.turns (RTurns.world hn h.has (St.turns hS) rfl rfl rfl) h.ok h.rules h.a h.b
  have hnew : ∀ b, inF (rhalfH Y W R W.to) b → w0.heap.size ≤ b := fun b hb => h.new b (inF_perm (rhalf_perm Y W R hn).symm (inF_app.2 (.inl hb)))
  generalize hSS : inF (rhalfH Y W R W.to) = S at hS hT hst
  rw [rhalf_up hN] at hS hst hnew
  obtain ⟨g, hg⟩ := two_own (hS.get 1 rfl)
  refine fn_intro tabOk Tryz.func74 (by kernel_rfl) rfl Tryz.ntmps74 (Nat.le_of_ble_eq_true rfl) ?_
  (conv => whnf)
  refine hS.new (fun bp w1 hbp hS => ?_)
  (conv => whnf)
  refine hS.new (fun br w2 hbr hS => ?_)
  have hst2 := hst (hS.keep 13)
  (conv => whnf)
  refine (rhandErr_ok hst2).mono ?_
  rintro v w3 ⟨rfl, rfl⟩
  rw [hu]
  have hs0 := hS.notin 0 6 7 rfl (List.mem_singleton.2 rfl) (.inl (by decide))
  have hs1 := hS.notin 1 6 7 (b := g) rfl (foot_own (by rw [hg]; rfl)) (.inl (by decide))
  have hp := hS.notin 13 6 7 rfl (List.mem_singleton.2 rfl) (.inr (by decide))
  have hs02 := hS.ne 0 14 rfl rfl (by decide)
  have hs12 : g ≠ br := fun e => hS.apartAt 1 14 rfl rfl (by decide) g (foot_own (by rw [hg]; rfl)) (by rw [e]; exact List.mem_singleton.2 rfl)
  have hp2 := hS.ne 13 14 rfl rfl (by decide)
  generalize W.setSide W.to ⟨some (N.outside p).2.2, (W.side W.to).byt⟩ = W' at hT ⊢
  have hrx : RulesAt w0 (Y.side W.to).ra N.rules.length N.rules := hrl
  have hE0 : Ext No w0 w2 := hst2.ext
  clear hst hst2
  (conv => whnf)
  (refine drawS tabOk mixed [] (fun b => inF (rnodeH (Y.side W.to) N (R.side W.to)) b ∨ b = br) [0, 1, 2, 3, 4, 5, 6, 7, 8, 9, 10, 11, 12, 13, 14, 15] (by kernel_rfl) ?_; rintro w1 rfl; replace hS := hS.drew)
  have hK := hS.ref (fun b => inF (rnodeH (Y.side W.to) N (R.side W.to)) b ∨ b = br)
  (conv => whnf)
  refine hS.ldF 0 rfl (v := .slice (some ⟨g, 0, none⟩) 2 Y.nc) (by rw [← hg]; rfl) (fun h => h.elim hs0 hs02) ?_
  (conv => whnf)
  refine hS.ldF 0 rfl rfl (fun h => h.elim hs0 hs02) ?_
  (conv => whnf)
  refine IdxC.mk (by omega) (by omega) ?_
  (conv => whnf)
  refine hS.ldTwoF 1 hn (by rw [← hg]; rfl) rfl (fun h => h.elim hs1 hs12) ?_
  (conv => whnf)
  refine hS.laXF 13 rfl rfl (fun h => h.elim hp hp2) ?_
  (conv => whnf)
  have hw3 : Has _ (rnodeH (Y.side W.to) N (R.side W.to)) := Has.left (B := [_, _]) (Has.right (A := [_, _, _, _, _, _]) hS.has)
  have hout := hrx.out (H := rnodeH (Y.side W.to) N (R.side W.to)) (fun b hb => hnew b (inF_app.2 (.inr hb)))
  refine (routside_ok p hw3 hnk hm).mono ?_
  rintro v w' ⟨rfl, hk⟩
  replace hS := St.callAt (A := [_, _, _, _, _, _]) (B := [_, _]) hS hk
  replace hK := hK.trans (hk.ext.mono fun b hb => .inl hb)
  refine KeepC.mk hK ?_
  (conv => whnf)
  refine hS.stK hK 14 rfl (Nat.le_of_ble_eq_true rfl) rfl (.inr rfl) (fun w' hK hS => KeepC.mk hK ?_)
  (conv => whnf)
  refine hS.laX 14 rfl rfl ?_
  repeat' ((conv => whnf); first | refine RetC.mk ?_ | refine NzC.mk (by decide) ?_ | refine RngC.mk (by omega) (by omega) ?_ | refine IdxC.mk (by omega) (by omega) ?_ | refine brD (fun _ => ?_) (fun _ => ?_) | refine brND (fun _ => ?_) (fun _ => ?_) | refine brN (fun _ => ?_) (fun _ => ?_) | refine brI (fun _ => ?_) (fun _ => ?_))
  exact ⟨rfl, hT (hS.keep 13)⟩
end
end Go.Proofs.YtoaghhcjlfiflaaGreatDoor

namespace Go.Proofs.YtoaghhcjlfiflaaGreatDoor
open Go Ev
section
variable {w w' : World} {X : WorldA} {W : WorldS} {E : Nat → Addr} {q m : Nat}
end
end Go.Proofs.YtoaghhcjlfiflaaGreatDoor

namespace Go.Proofs.YtoaghhcjlfiflaaGreatDoor
open Go Ev
section
variable {w w' : World} {X : WorldA} {W : WorldS} {E : Nat → Addr} {q m : Nat}
end
end Go.Proofs.YtoaghhcjlfiflaaGreatDoor

namespace Go.Proofs.YtoaghhcjlfiflaaGreatDoor
open Go Ev
section
variable {w w' : World} {X : WorldA} {W : WorldS} {E : Nat → Addr} {q m : Nat}
structure Codes (E : Nat → Addr) (q : Nat) (w : World) : Prop where
  errs : Errs w E q allErrs
  handle : Handle w
  lt : 11 < q
theorem Codes.no (h : Codes E q w) (hx : Ext No w w') : Codes E q w' := ⟨h.errs.ext hx fun _ h => h.elim, h.handle.ext hx, h.lt⟩
end
end Go.Proofs.YtoaghhcjlfiflaaGreatDoor

namespace Go.Proofs.YtoaghhcjlfiflaaGreatDoor
open Go Ev
section
variable {w w' : World} {X : WorldA} {W : WorldS} {E : Nat → Addr} {q m : Nat}
end
end Go.Proofs.YtoaghhcjlfiflaaGreatDoor

namespace Go.Proofs.YtoaghhcjlfiflaaGreatDoor
open Go Ev
def bornFacts : Bool :=
  let R := (WorldS.born []).ticks 0 10
  let D := R.2.deliver 0
  R.1 == 0 && R.2.to == -1 && R.2.epoch == 0 && R.2.fly.length == 1 && D.1 == 0 && D.2.to == 0 && D.2.epoch == 2 && D.2.events.length == 1
theorem bornFacts_true : bornFacts = true := by decide +kernel
theorem born_plain : ((WorldS.born []).ticks 0 10).1 = 0 ∧ ((WorldS.born []).ticks 0 10).2.to = -1 ∧ ((WorldS.born []).ticks 0 10).2.epoch = 0 ∧ ((WorldS.born []).ticks 0 10).2.fly.length = 1 ∧ (((WorldS.born []).ticks 0 10).2.deliver 0).1 = 0 ∧ (((WorldS.born []).ticks 0 10).2.deliver 0).2.to = 0 ∧ (((WorldS.born []).ticks 0 10).2.deliver 0).2.epoch = 2 ∧ (((WorldS.born []).ticks 0 10).2.deliver 0).2.events.length = 1 := by
  have h := bornFacts_true
  unfold bornFacts at h
  simpa [Bool.and_eq_true, and_assoc] using h
section
variable {w w' : World} {X : WorldA} {W : WorldS} {E : Nat → Addr} {q m : Nat}
theorem Ext.new_of {H H' : List Ent} {w w1 w' : World} (h : Ext No w w1) (hf : ∀ b, inF H b → w.heap.size ≤ b) (k : Turns w1 w' H H') : Ext No w w' := h.then k.ext fun b hb => .inr (hf b hb)
theorem born_ok' (hE : Errs w E q insErrs) (hq : q ≤ w.heap.size) : CallC Tryz.prog 9 #[] w fun v w' => v = .bool true ∧ Ext No w w' := by
  obtain ⟨b1, b2, b3, b4, b5, b6, b7, b8⟩ := born_plain
  have hnil : Slc w 5 encRule (fun _ => True) none 0 ([] : List RuleS) := ⟨rfl, by decide, fun k x hk => by simp at hk, fun _ _ => trivial⟩
  refine fn_intro tabOk Tryz.func9 (by kernel_rfl) rfl Tryz.ntmps9 (Nat.le_of_ble_eq_true rfl) ?_
  (conv => whnf)
  refine (wnew_ok hnil (by decide) hE hq (by decide)).mono ?_
  rintro v w1 ⟨X, rfl, hx, hst, hf⟩
  (conv => whnf)
  generalize WorldS.born [] = V at *
  refine loopR tabOk (fun σ w' r => ∃ (i : Nat) (X' : WorldA) (W' : WorldS), σ = [(3, .int .i64 i), (1, .pointer (some ⟨X.w, 0, none⟩))] ∧ r = 10 - i ∧ i ≤ 10 ∧ X'.w = X.w ∧ Stands E q (34 * i) w' X' W' ∧ Turns w1 w' (worldH X V) (worldH X' W') ∧ V.ticks 0 10 = W'.ticks 0 (10 - i))
    (σ' := [(3, .int .i64 ((0 : Nat) : Int)), (1, .pointer (some ⟨X.w, 0, none⟩))]) (n := 10) ⟨rfl, rfl, trivial⟩ ⟨0, X, V, rfl, rfl, Nat.zero_le _, rfl, hst, Turns.refl hst.has, rfl⟩ ?_
  rintro _ w2 r ⟨i, X', W', rfl, rfl, hi, hw, hst2, hT, hr⟩
  (conv => whnf)
  refine brD (fun h3 => ?_) (fun h3 => ?_)
  · obtain ⟨j, hj⟩ : ∃ j, 10 - i = j + 1 := ⟨10 - i - 1, by omega⟩
    rw [hj] at hr
    (conv => whnf)
    rw [← hw]
    refine (wtick_ok 0 hst2 (by omega)).mono ?_
    rintro v w3 ⟨rfl, X3, hw3, hT3⟩
    have hst3 := hst2.turns hT3 (hst2.ok.tick (by omega) 0)
    have he : (W'.tick 0).1 = 0 := by
      refine Classical.byContradiction fun h => ?_
      rw [hr, show W'.ticks 0 (j + 1) = if (W'.tick 0).1 ≠ 0 then W'.tick 0 else (W'.tick 0).2.ticks 0 j from rfl, if_pos h] at b1
      exact h b1
    have hr2 : V.ticks 0 10 = (W'.tick 0).2.ticks 0 j := by
      rw [hr, show W'.ticks 0 (j + 1) = if (W'.tick 0).1 ≠ 0 then W'.tick 0 else (W'.tick 0).2.ticks 0 j from rfl, if_neg (fun h => h he)]
    rw [he]
    (conv => whnf)
    refine RngC.mk (by omega) (by omega) ?_
    (conv => whnf)
    refine LoopE.mk ⟨_, [(3, .int .i64 ((i + 1 : Nat) : Int)), (1, .pointer (some ⟨X'.w, 0, none⟩))], ?_, ⟨rfl, rfl, trivial⟩, ⟨i + 1, X3, (W'.tick 0).2, rfl, rfl, by omega, hw3, hst3, hT.trans hT3, by rw [hr2]; congr 1; omega⟩⟩
    omega
  · obtain rfl : i = 10 := by omega
    rw [hr] at b1 b2 b3 b4 b5 b6 b7 b8
    change W'.to = _ at b2
    change W'.epoch = _ at b3
    change W'.fly.length = _ at b4
    change (W'.deliver 0).1 = _ at b5
    change (W'.deliver 0).2.to = _ at b6
    change (W'.deliver 0).2.epoch = _ at b7
    change (W'.deliver 0).2.events.length = _ at b8
    rw [← hw]
    (conv => whnf)
    refine (wswitch_ok hst2.has).mono ?_
    rintro v w3 ⟨rfl, hx3⟩
    rw [b2, b3]
    have hst3 := hst2.no hx3
    (conv => whnf)
    refine (wflying_ok hst3).mono ?_
    rintro v w4 ⟨a', c', vs', rfl, hx4, _⟩
    have hst4 := hst3.no hx4
    rw [b4]
    (conv => whnf)
    refine (wdeliver_ok 0 hst4).mono ?_
    rintro v w5 ⟨rfl, X5, hw5, hT5⟩
    rw [b5, ← hw5]
    have hst5 := hst4.turns hT5 (hst4.ok.deliver 0)
    (conv => whnf)
    refine (wswitch_ok hst5.has).mono ?_
    rintro v w6 ⟨rfl, hx6⟩
    rw [b6, b7]
    have hst6 := hst5.no hx6
    (conv => whnf)
    refine (wevents_ok hst6).mono ?_
    rintro v w7 ⟨a7, c7, rfl, hx7, _⟩
    rw [b8]
    repeat' ((conv => whnf); first | refine RetC.mk ?_ | refine NzC.mk (by decide) ?_ | refine RngC.mk (by omega) (by omega) ?_ | refine IdxC.mk (by omega) (by omega) ?_ | refine brD (fun _ => ?_) (fun _ => ?_) | refine brND (fun _ => ?_) (fun _ => ?_) | refine brN (fun _ => ?_) (fun _ => ?_) | refine brI (fun _ => ?_) (fun _ => ?_))
    refine ⟨rfl, ?_⟩
    have hT7 := (((hT.trans (Turns.of_no hst2.has (hx3.trans hx4))).trans hT5).trans (Turns.of_no hst5.has (hx6.trans hx7)))
    exact Ext.new_of hx hf hT7
end
end Go.Proofs.YtoaghhcjlfiflaaGreatDoor

namespace Go.Proofs.YtoaghhcjlfiflaaGreatDoor
open Go Ev
section
variable {w : World}
theorem backNotes_ok {G : NoteV → Prop} {a : Option Addr} {n c : Nat} {xs : List NoteV} (hx : Slc w 5 encNV G a n xs) (hn : n ≤ 1000) :
    CallC Tryz.prog 36 #[.slice a n c] w fun v w' => ∃ a' c', v = .slice a' n c' ∧ Ext No w w' ∧ (ownL 134 5 encNV v xs).holds w' ∧ Fresh w w' v := by
  have hl := hx.len
  refine fn_intro tabOk Tryz.func36 (by kernel_rfl) rfl Tryz.ntmps36 (Nat.le_of_ble_eq_true rfl) ?_
  have hS := (St.start w No).addNil 134 5 encNV
  (conv => whnf)
  refine loopR tabOk (fun σ w' q => ∃ (k : Nat) (a' : Option Addr) (c' : Nat), σ = [(4, .int .i64 k), (3, .slice a' k c'), (0, .slice a n c)] ∧ q = n - k ∧ k ≤ n ∧ St w No w' [ownL 134 5 encNV (.slice a' k c') (xs.take k)])
    (σ' := [(4, .int .i64 ((0 : Nat) : Int)), (3, .slice none 0 0), (0, .slice a n c)]) (n := n) ⟨rfl, rfl, rfl, trivial⟩ ⟨0, none, 0, rfl, rfl, Nat.zero_le _, hS⟩ ?_
  clear hS
  rintro _ w1 q ⟨k, a', c', rfl, rfl, hk, hS⟩
  (conv => whnf)
  refine brD (fun h3 => ?_) (fun h3 => ?_)
  · obtain ⟨b0, o0, x, hxk, _, rfl, hb0, hc⟩ := hx.at (k := k) (by omega)
    have hT : ¬ w.heap.size ≤ b0 := Nat.not_le.2 hb0
    have hlk : (xs.take k).length = k := by rw [List.length_take]; omega
    have hst : xs.take (k + 1) = xs.take k ++ [x] := by rw [List.take_add_one, hxk]; rfl
    (conv => whnf)
    (refine drawS tabOk mixed [] (fun b => w.heap.size ≤ b) [0, 1, 2, 3, 4, 5, 6, 7, 8, 9, 10, 11, 12, 13, 14, 15, 16, 17, 18, 19, 20, 21, 22, 23, 24, 25, 26, 27, 28, 29] (by kernel_rfl) ?_; rintro w1 rfl; replace hS := hS.drew)
    have hK := hS.ref (fun b => w.heap.size ≤ b)
    repeat' ((conv => whnf); first | refine IdxC.mk (by omega) (by omega) ?_ | refine hS.ldrF (hc.one 0 rfl) id hT ?_ | refine hS.ldrF (hc.one 1 rfl) id hT ?_ | refine hS.ldrF (hc.one 2 rfl) id hT ?_ | refine hS.ldrF (hc.one 3 rfl) id hT ?_ | refine hS.ldrF (hc.one 4 rfl) id hT ?_)
    refine hS.litX Tryz.underlying79 (sz := 5) (by kernel_rfl) (z := .agg (encNV noNV).toArray) (by kernel_rfl) rfl rfl (cs := encNV x) (by rfl) (fun b9 w3 hb9 hx3 hS => ?_)
    replace hK := hK.trans hx3.of_no
    refine KeepC.mk hK ?_
    clear hx3
    have hfr := hS.freshAt 0 rfl
    (conv => whnf)
    refine hS.appX codNote 0 (ys := [x]) (G := fun _ => True) Tryz.underlying79 (bytes := 56) (by kernel_rfl) (z := .agg (encNV noNV).toArray) (by kernel_rfl) rfl rfl (Slc.of_blk codNote (hS.blk 1 rfl) rfl (by simp) (fun _ _ => trivial) rfl) (by rw [hlk]; unfold maxLen; omega) (by rw [hlk]; omega) (fun a2 c2 w4 hx4 hS => ?_)
    replace hK := hK.trans (hx4.mono fun q h => (hfr q h).1)
    refine KeepC.mk hK ?_
    clear hx4 hK hfr
    rw [hlk] at hS ⊢
    replace hS := hS.keep 1
    replace hS : St w No w4 [ownL 134 5 encNV (.slice a2 (k + 1) c2) (xs.take (k + 1))] := by rw [hst]; exact hS
    (conv => whnf)
    refine RngC.mk (by omega) (by omega) ?_
    (conv => whnf)
    refine LoopE.mk ⟨_, [(4, .int .i64 ((k + 1 : Nat) : Int)), (3, _), (0, _)], ?_, ⟨rfl, rfl, rfl, trivial⟩, ⟨k + 1, a2, c2, rfl, rfl, by omega, hS⟩⟩
    omega
  · obtain rfl : k = n := by omega
    rw [List.take_of_length_le (by omega)] at hS
    repeat' ((conv => whnf); first | refine RetC.mk ?_ | refine NzC.mk (by decide) ?_ | refine RngC.mk (by omega) (by omega) ?_ | refine IdxC.mk (by omega) (by omega) ?_ | refine brD (fun _ => ?_) (fun _ => ?_) | refine brND (fun _ => ?_) (fun _ => ?_) | refine brN (fun _ => ?_) (fun _ => ?_) | refine brI (fun _ => ?_) (fun _ => ?_))
    exact ⟨a', c', rfl, hS.ext, hS.get 0 rfl, hS.freshAt 0 rfl⟩
def SameN (w : World) (xs ys : List NoteV) : Prop := ∀ (k : Nat) (x y : NoteV), xs[k]? = some x → ys[k]? = some y → x.fro = y.fro ∧ x.life = y.life ∧ x.epoch = y.epoch ∧ x.claim = y.claim ∧ ∃ cs, Slc w 10 encCell (fun _ => True) x.a x.n cs ∧ Slc w 10 encCell (fun _ => True) y.a y.n cs
theorem sameNotes_ok {G : NoteV → Prop} {a b : Option Addr} {n c d : Nat} {xs ys : List NoteV} (hx : Slc w 5 encNV G a n xs) (hy : Slc w 5 encNV G b n ys) (hs : SameN w xs ys) :
    CallC Tryz.prog 35 #[.slice a n c, .slice b n d] w fun v w' => v = .bool true ∧ Ext No w w' := by
  have hmax := hx.max
  refine fn_intro tabOk Tryz.func35 (by kernel_rfl) rfl Tryz.ntmps35 (Nat.le_of_ble_eq_true rfl) ?_
  have hS := St.start w No
  (conv => whnf)
  refine brND (fun h => absurd rfl h) (fun _ => ?_)
  (conv => whnf)
  refine loopR tabOk (fun σ w' q => ∃ k : Nat, σ = [(5, .int .i64 k), (1, .slice b n d), (0, .slice a n c)] ∧ q = n - k ∧ k ≤ n ∧ St w No w' [])
    (σ' := [(5, .int .i64 ((0 : Nat) : Int)), (1, .slice b n d), (0, .slice a n c)]) (n := n) ⟨rfl, rfl, rfl, trivial⟩ ⟨0, rfl, rfl, Nat.zero_le _, hS⟩ ?_
  clear hS
  rintro _ w1 q ⟨k, rfl, rfl, hk, hS⟩
  (conv => whnf)
  refine brD (fun h3 => ?_) (fun h3 => ?_)
  · obtain ⟨b0, o0, ⟨f1, l1, e1, cl1, xa, xn, xc⟩, hxk, _, rfl, _, hc⟩ := hx.at (k := k) (by omega)
    obtain ⟨b1, o1, ⟨f2, l2, e2, cl2, ya, yn, yc⟩, hyk, _, rfl, _, hd⟩ := hy.at (k := k) (by omega)
    obtain ⟨g1, g2, g3, g4, cs, g5, g6⟩ := hs k _ _ hxk hyk
    dsimp only at g1 g2 g3 g4 g5 g6
    subst g1 g2 g3 g4
    (conv => whnf)
    (refine drawS tabOk mixed [] No [0, 1, 2, 3, 4, 5, 6, 7, 8, 9, 10, 11, 12, 13, 14, 15, 16, 17, 18, 19, 20, 21, 22, 23, 24, 25, 26, 27, 28, 29, 30, 31, 32, 33, 34, 35, 36, 37, 38, 39, 40, 41, 42, 43, 44, 45, 46, 47, 48, 49, 50, 51, 52, 53, 54, 55, 56, 57, 58, 59, 60, 61, 62, 63] (by kernel_rfl) ?_; rintro w1 rfl; replace hS := hS.drew)
    repeat' ((conv => whnf); first | refine IdxC.mk (by omega) (by omega) ?_ | refine hS.ldrF (hc.one 0 rfl) id id ?_ | refine hS.ldrF (hc.one 1 rfl) id id ?_ | refine hS.ldrF (hc.one 2 rfl) id id ?_ | refine hS.ldrF (hc.one 3 rfl) id id ?_ | refine hS.ldrF (hc.one 4 rfl) id id ?_ | refine hS.ldrF (hd.one 0 rfl) id id ?_ | refine hS.ldrF (hd.one 1 rfl) id id ?_ | refine hS.ldrF (hd.one 2 rfl) id id ?_ | refine hS.ldrF (hd.one 3 rfl) id id ?_ | refine hS.ldrF (hd.one 4 rfl) id id ?_ | refine brND (fun h => absurd rfl h) (fun _ => ?_))
    obtain rfl : xn = yn := g5.len.symm.trans g6.len
    refine (sameCells_same (g5.no hS.ext) (g6.no hS.ext)).mono ?_
    rintro v w2 ⟨rfl, hx2⟩
    refine KeepC.mk hx2 ?_
    replace hS := hS.no hx2
    (conv => whnf)
    refine RngC.mk (by omega) (by omega) ?_
    (conv => whnf)
    refine LoopE.mk ⟨_, [(5, .int .i64 ((k + 1 : Nat) : Int)), (1, _), (0, _)], ?_, ⟨rfl, rfl, rfl, trivial⟩, ⟨k + 1, rfl, rfl, by omega, hS⟩⟩
    omega
  · obtain rfl : k = n := by omega
    repeat' ((conv => whnf); first | refine RetC.mk ?_ | refine NzC.mk (by decide) ?_ | refine RngC.mk (by omega) (by omega) ?_ | refine IdxC.mk (by omega) (by omega) ?_ | refine brD (fun _ => ?_) (fun _ => ?_) | refine brND (fun _ => ?_) (fun _ => ?_) | refine brN (fun _ => ?_) (fun _ => ?_) | refine brI (fun _ => ?_) (fun _ => ?_))
    exact ⟨rfl, hS.ext⟩
end
end Go.Proofs.YtoaghhcjlfiflaaGreatDoor
