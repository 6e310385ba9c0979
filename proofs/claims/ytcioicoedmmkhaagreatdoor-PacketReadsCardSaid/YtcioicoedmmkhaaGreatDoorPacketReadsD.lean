/-
  Texts of this claim, joined: RefPkt, RefPktB, RefPktC, PolicyLaw, LawS, PacketReads.
-/
import Derived.Test.YtcioicoedmmkhaaGreatDoorPacketReadsC
import Derived.Shelf.Vars
import Derived.Lay
import Derived.LaidHandle

namespace Go.Proofs.YtcioicoedmmkhaaGreatDoor
open Go Ev
theorem join_snoc (w : List UInt8) (sep : List UInt8) : ∀ l : List (List UInt8), l ≠ [] → Lib.join (l ++ [w]) sep = Lib.join l sep ++ sep ++ w
  | [], h => absurd rfl h
  | [x], _ => by
    rw [List.singleton_append, join_cc, Lib.join_one, Lib.join_one]
    simp
  | x :: y :: r, _ => by
    have ih := join_snoc w sep (y :: r) (by simp)
    rw [List.cons_append, List.cons_append, join_cc, join_cc, ← List.cons_append, ih]
    simp
theorem fjoin_nil (n : Int) {k : Nat} (hk : k ≤ 4) : Lib.join (fwords n k) [43] = [] ↔ fwords n k = [] := by
  constructor
  · intro h
    cases hw : fwords n k with
    | nil => rfl
    | cons w ws =>
      exfalso
      have h3 := (fwords_mem hk (show w ∈ fwords n k by rw [hw]; exact List.mem_cons_self)).1
      have hm := join_mem_len (sep := [43]) (fwords n k) (show w ∈ fwords n k by rw [hw]; exact List.mem_cons_self)
      rw [h, List.length_nil] at hm
      omega
  · intro h
    rw [h]
    rfl
theorem tdiv_rng {n : Int} (hn : I64 n) (m : Nat) : -9223372036854775808 ≤ n.tdiv (m : Int) ∧ n.tdiv (m : Int) ≤ 9223372036854775807 := by
  obtain ⟨h1, h2⟩ := hn
  rcases Int.le_total 0 n with h | h
  · rw [Int.tdiv_eq_ediv_of_nonneg h]
    have := Int.ediv_le_self (a := n) (m : Int) h
    have := Int.ediv_nonneg h (Int.natCast_nonneg m)
    omega
  · obtain ⟨j, rfl⟩ : ∃ j : Nat, n = -(j : Int) := ⟨(-n).toNat, by omega⟩
    rw [Int.neg_tdiv, Int.tdiv_eq_ediv_of_nonneg (Int.natCast_nonneg j)]
    have := Int.ediv_le_self (a := (j : Int)) (m : Int) (Int.natCast_nonneg j)
    have := Int.ediv_nonneg (Int.natCast_nonneg j) (Int.natCast_nonneg m)
    omega
theorem flagsText_ok (n : Int) (hn : I64 n) (w : World) : CallC Tryz.prog 36 #[.int .i64 n] w fun v w' => v = .string (bs (ftext n)) ∧ Ext No w w' := by
  refine fn_intro tabOk Tryz.func36 (by kernel_rfl) rfl Tryz.ntmps36 (Nat.le_of_ble_eq_true rfl) ?_
  have hS := St.start w No
  (conv => whnf)
  refine hS.lit (cs := fnames.map fun l => .string (bs l)) Tryz.underlying66 (sz := 1) (by kernel_rfl) (z := .string (bs [])) (by kernel_rfl) rfl rfl (by rfl) (fun bl w' hbl hS => ?_)
  (conv => whnf)
  refine loopR tabOk (fun σ w' q => ∃ (k : Nat), σ = [(6, .int .i64 (k : Int)), (5, .int .i64 ((2 ^ k : Nat) : Int)), (4, .string (bs (Lib.join (fwords n k) [43]))), (3, .slice (some ⟨bl, 0, none⟩) 4 4), (0, .int .i64 n)] ∧ q = 4 - k ∧ k ≤ 4 ∧ St w No w' [blk bl 9 (fnames.map fun l => .string (bs l))])
    (σ' := [(6, .int .i64 ((0 : Nat) : Int)), (5, .int .i64 ((2 ^ 0 : Nat) : Int)), (4, .string (bs [])), (3, .slice (some ⟨bl, 0, none⟩) 4 4), (0, .int .i64 n)]) (n := 4) ⟨rfl, rfl, rfl, rfl, rfl, trivial⟩ ⟨0, rfl, rfl, Nat.zero_le _, hS⟩ ?_
  clear hS
  rintro _ w1 q ⟨k, rfl, rfl, hk, hS⟩
  have hjl := fjoin_len n hk
  have hjn := fjoin_nil n hk
  (conv => whnf)
  refine brD (fun h3 => ?_) (fun h3 => ?_)
  · have hk4 : k < 4 := by omega
    have hst := fwords_step n k
    have hjl1 := fjoin_len n (show k + 1 ≤ 4 by omega)
    have h2k : 2 ^ k ≤ 2 ^ 3 ∧ 1 ≤ 2 ^ k := ⟨Nat.pow_le_pow_right (by decide) (by omega), Nat.one_le_pow _ _ (by decide)⟩
    have h2s : 2 ^ (k + 1) = 2 * 2 ^ k := by rw [Nat.pow_succ, Nat.mul_comm]
    obtain ⟨t1, t2⟩ := tdiv_rng hn (2 ^ k)
    have hfb : ((n.tdiv ((2 ^ k : Nat) : Int)).tmod 2 == 1) = fbit n k := by
      unfold fbit
      rw [Bool.eq_iff_iff, beq_iff_eq, decide_eq_true_iff]
    have hat : (fnames.map fun l => Value.string (bs l))[0 + k * 1]? = some (.string (bs (fnames.getD k []))) := by
      rw [Nat.zero_add, Nat.mul_one, List.getElem?_map, List.getD_eq_getElem?_getD, List.getElem?_eq_getElem (show k < fnames.length from hk4)]
      rfl
    (conv => whnf)
    refine NzC.mk (by omega) ?_
    refine RngC.mk t1 t2 ?_
    (conv => whnf)
    refine NzC.mk (by decide) ?_
    (conv => whnf)
    rw [hfb]
    refine brI (fun h4 => ?_) (fun h4 => ?_)
    · rw [if_pos h4] at hst
      (conv => whnf)
      refine neS2 ?_
      (conv => whnf)
      refine brND (fun h5 => ?_) (fun h5 => ?_)
      · have hne : fwords n k ≠ [] := fun e => h5 (hjn.2 e)
        have hj : Lib.join (fwords n (k + 1)) [43] = Lib.join (fwords n k) [43] ++ [43] ++ fnames.getD k [] := by rw [hst, join_snoc _ _ _ hne]
        rw [hj] at hjl1
        simp only [List.length_append] at hjl1
        (conv => whnf)
        refine addS (b := [43]) (by simp; omega) ?_
        (conv => whnf)
        refine IdxC.mk (by omega) (by omega) ?_
        (conv => whnf)
        refine hS.ld 0 rfl hat ?_
        (conv => whnf)
        refine addS (by simp only [List.length_append]; omega) ?_
        rw [← hj]
        (conv => whnf)
        refine RngC.mk (by omega) (by omega) ?_
        (conv => whnf)
        refine RngC.mk (by omega) (by omega) ?_
        (conv => whnf)
        refine LoopE.mk ⟨_, [(6, .int .i64 ((k + 1 : Nat) : Int)), (5, .int .i64 ((2 ^ (k + 1) : Nat) : Int)), (4, _), (3, _), (0, _)], ?_, ⟨rfl, by rw [h2s, Int.natCast_mul]; rfl, rfl, rfl, rfl, trivial⟩, ⟨k + 1, rfl, rfl, by omega, hS⟩⟩
        omega
      · have hnil : fwords n k = [] := hjn.1 h5
        have hj : Lib.join (fwords n (k + 1)) [43] = fnames.getD k [] := by rw [hst, hnil, List.nil_append, Lib.join_one]
        have h5 : Lib.join (fwords n k) [43] = [] := h5
        rw [h5]
        rw [hj] at hjl1
        (conv => whnf)
        refine IdxC.mk (by omega) (by omega) ?_
        (conv => whnf)
        refine hS.ld 0 rfl hat ?_
        (conv => whnf)
        refine addS (a := []) (by simp only [List.length_nil]; omega) ?_
        rw [List.nil_append, ← hj]
        (conv => whnf)
        refine RngC.mk (by omega) (by omega) ?_
        (conv => whnf)
        refine RngC.mk (by omega) (by omega) ?_
        (conv => whnf)
        refine LoopE.mk ⟨_, [(6, .int .i64 ((k + 1 : Nat) : Int)), (5, .int .i64 ((2 ^ (k + 1) : Nat) : Int)), (4, _), (3, _), (0, _)], ?_, ⟨rfl, by rw [h2s, Int.natCast_mul]; rfl, rfl, rfl, rfl, trivial⟩, ⟨k + 1, rfl, rfl, by omega, hS⟩⟩
        omega
    · rw [if_neg (by rw [h4]; decide), List.append_nil] at hst
      rw [← hst]
      (conv => whnf)
      refine RngC.mk (by omega) (by omega) ?_
      (conv => whnf)
      refine RngC.mk (by omega) (by omega) ?_
      (conv => whnf)
      refine LoopE.mk ⟨_, [(6, .int .i64 ((k + 1 : Nat) : Int)), (5, .int .i64 ((2 ^ (k + 1) : Nat) : Int)), (4, _), (3, _), (0, _)], ?_, ⟨rfl, by rw [h2s, Int.natCast_mul]; rfl, rfl, rfl, rfl, trivial⟩, ⟨k + 1, rfl, rfl, by omega, hS⟩⟩
      omega
  · obtain rfl : k = 4 := by omega
    unfold ftext
    (conv => whnf)
    refine eqS2 ?_
    (conv => whnf)
    refine brD (fun h5 => ?_) (fun h5 => ?_)
    · rw [if_pos (hjn.1 h5)]
      repeat' ((conv => whnf); first | refine RetC.mk ?_ | refine NzC.mk (by decide) ?_ | refine RngC.mk (by omega) (by omega) ?_ | refine IdxC.mk (by omega) (by omega) ?_ | refine brD (fun _ => ?_) (fun _ => ?_) | refine brND (fun _ => ?_) (fun _ => ?_) | refine brN (fun _ => ?_) (fun _ => ?_) | refine brI (fun _ => ?_) (fun _ => ?_))
      exact ⟨rfl, hS.ext⟩
    · rw [if_neg (fun e => h5 (hjn.2 e))]
      repeat' ((conv => whnf); first | refine RetC.mk ?_ | refine NzC.mk (by decide) ?_ | refine RngC.mk (by omega) (by omega) ?_ | refine IdxC.mk (by omega) (by omega) ?_ | refine brD (fun _ => ?_) (fun _ => ?_) | refine brND (fun _ => ?_) (fun _ => ?_) | refine brN (fun _ => ?_) (fun _ => ?_) | refine brI (fun _ => ?_) (fun _ => ?_))
      exact ⟨rfl, hS.ext⟩
end Go.Proofs.YtcioicoedmmkhaaGreatDoor

namespace Go.Proofs.YtcioicoedmmkhaaGreatDoor
open Go Ev
theorem codN1 : Codec 1 encI := ⟨fun _ => rfl, fun _ => rfl, by decide⟩
def atE (i : Nat) : Nat := [0, 1, 5, 7, 11, 13, 14].getD i 0
theorem atE_facts : ∀ i, i < 6 → atE i ≤ atE (i + 1) ∧ atE (i + 1) ≤ 14 ∧ atE (i + 1) ≤ atE i + 4 := by decide
def endsI : List Int := [1, 5, 7, 11, 13, 14]
theorem endsI_at : ∀ i, i < 6 → endsI[i]? = some ((atE (i + 1) : Nat) : Int) := by decide
def vAt (s : List UInt8) (i : Nat) : Nat := valB ((s.drop (atE i)).take (atE (i + 1) - atE i))
def valsI (s : List UInt8) (k : Nat) : List Int := (List.range k).map fun i => ((vAt s i : Nat) : Int)
theorem valsI_step (s : List UInt8) (k : Nat) : valsI s (k + 1) = valsI s k ++ [((vAt s k : Nat) : Int)] := by
  unfold valsI
  rw [List.range_succ, List.map_append]
  rfl
theorem valsI_len (s : List UInt8) (k : Nat) : (valsI s k).length = k := by simp [valsI]
theorem numbers_ok {w : World} {G : Int → Prop} {a : Option Addr} {c : Nat} (s : List UInt8) (hs : s.length = 14) (hx : Slc w 1 encI G a 6 endsI) :
    CallC Tryz.prog 30 #[.string (bs s), .slice a 6 c] w fun v w' => (∃ a' d, v = .slice a' 6 d ∧ (ownL 3 1 encI (.slice a' 6 d) (valsI s 6)).holds w' ∧ Fresh w w' (.slice a' 6 d)) ∧ Ext No w w' := by
  refine fn_intro tabOk Tryz.func30 (by kernel_rfl) rfl Tryz.ntmps30 (Nat.le_of_ble_eq_true rfl) ?_
  have hS := St.start w No
  have hS := hS.add (ownL_local (e := 3) (enc := encI) (sz := 1) (v := .slice none 0 0) (xs := [])) (own_nil _ _ _) (by simp [ownL, own, Value.ownBlock]) (by simp [ownL, own, Value.ownBlock])
  (conv => whnf)
  refine loopR tabOk (fun σ w' q => ∃ (k : Nat) (a' : Option Addr) (d : Nat), σ = [(7, .int .i64 (k : Int)), (6, .int .i64 ((atE k : Nat) : Int)), (5, .slice a' k d), (1, .slice a 6 c), (0, .string (bs s))] ∧ q = 6 - k ∧ k ≤ 6 ∧ St w No w' [ownL 3 1 encI (.slice a' k d) (valsI s k)])
    (σ' := [(7, .int .i64 ((0 : Nat) : Int)), (6, .int .i64 ((0 : Nat) : Int)), (5, .slice none 0 0), (1, .slice a 6 c), (0, .string (bs s))]) (n := 6) ⟨rfl, rfl, rfl, rfl, rfl, trivial⟩ ⟨0, none, 0, rfl, rfl, Nat.zero_le _, hS⟩ ?_
  clear hS
  rintro _ w1 q ⟨k, a', d, rfl, rfl, hk, hS⟩
  (conv => whnf)
  refine brD (fun h3 => ?_) (fun h3 => ?_)
  · have hk6 : k < 6 := by omega
    obtain ⟨e1, e2, e3⟩ := atE_facts k hk6
    have hst := valsI_step s k
    have hvl := valsI_len s k
    obtain ⟨b0, o0, y, hyk, _, rfl, _, hc⟩ := hx.at (k := k) hk6
    rw [endsI_at k hk6] at hyk
    cases hyk
    unfold vAt at hst
    generalize atE k = A at e1 e2 e3 hst ⊢
    generalize hB : atE (k + 1) = B at e1 e2 e3 hst hc ⊢
    (conv => whnf)
    refine loopR tabOk (fun σ w' q => ∃ (j : Nat), σ = [(8, .int .i64 (valB ((s.drop A).take j) : Nat)), (7, .int .i64 (k : Int)), (6, .int .i64 ((A + j : Nat) : Int)), (5, .slice a' k d), (1, .slice (some ⟨b0, o0, none⟩) 6 c), (0, .string (bs s))] ∧ q = B - (A + j) ∧ A + j ≤ B ∧ St w No w' [ownL 3 1 encI (.slice a' k d) (valsI s k)])
      (σ' := [(8, .int .i64 ((0 : Nat) : Int)), (7, .int .i64 (k : Int)), (6, .int .i64 ((A : Nat) : Int)), (5, .slice a' k d), (1, .slice (some ⟨b0, o0, none⟩) 6 c), (0, .string (bs s))]) (n := B - A) ⟨rfl, rfl, rfl, rfl, rfl, rfl, trivial⟩ ⟨0, rfl, rfl, by omega, hS⟩ ?_
    clear hS
    rintro _ w2 q ⟨j, rfl, rfl, hj, hS⟩
    (conv => whnf)
    refine IdxC.mk (by omega) (by omega) ?_
    (conv => whnf)
    refine hS.ldr (hc 0 _ rfl) id ?_
    (conv => whnf)
    refine brD (fun h4 => ?_) (fun h4 => ?_)
    · obtain ⟨x, hxx⟩ : ∃ x, s[A + j]? = some x := ⟨_, List.getElem?_eq_getElem (by omega)⟩
      have hxl := x.toNat_lt
      have hvs : valB ((s.drop A).take (j + 1)) = valB ((s.drop A).take j) * 256 + x.toNat := valB_step (by rw [List.getElem?_drop]; exact hxx)
      have hvb : valB ((s.drop A).take j) < 256 ^ 4 := Nat.lt_of_lt_of_le (valB_lt _) (Nat.pow_le_pow_right (by decide) (by rw [List.length_take]; omega))
      (conv => whnf)
      refine RngC.mk (by omega) (by omega) ?_
      (conv => whnf)
      refine idxS (j := A + j) Tryz.underlying9 rfl hxx ?_
      (conv => whnf)
      refine convI (kd := .i64) (m := (x.toNat : Int)) (by kernel_rfl) Tryz.underlying3 (by rw [IntKind.wrap_i64]; omega) ?_
      (conv => whnf)
      refine RngC.mk (by omega) (by omega) ?_
      (conv => whnf)
      refine RngC.mk (by omega) (by omega) ?_
      (conv => whnf)
      refine LoopE.mk ⟨_, [(8, .int .i64 (valB ((s.drop A).take (j + 1)) : Nat)), (7, _), (6, .int .i64 ((A + (j + 1) : Nat) : Int)), (5, _), (1, _), (0, _)], ?_, ⟨congrArg (fun z => some (Value.int .i64 z)) (by rw [hvs]; omega), rfl, congrArg (fun z => some (Value.int .i64 z)) (by omega), rfl, rfl, rfl, trivial⟩, ⟨j + 1, rfl, rfl, by omega, hS⟩⟩
      omega
    · obtain rfl : B = A + j := by omega
      rw [show A + j - A = j by omega] at hst
      (conv => whnf)
      refine hS.lit (cs := encI ((valB ((s.drop A).take j) : Nat) : Int)) Tryz.underlying62 (sz := 1) (by kernel_rfl) (z := .int .i64 0) (by kernel_rfl) rfl rfl (by rfl) (fun bl w' hbl hS => ?_)
      have hy : Slc w' 1 encI (fun _ => True) (some ⟨bl, 0, none⟩) 1 [((valB ((s.drop A).take j) : Nat) : Int)] := Slc.of_blk codN1 (hS.blk 1 rfl) rfl (by decide) (fun _ _ => trivial) rfl
      (conv => whnf)
      refine hS.appS codN1 0 Tryz.underlying62 (bytes := 8) (by kernel_rfl) (z := .int .i64 0) (by kernel_rfl) rfl rfl hy (by unfold maxLen; omega) (by omega) (fun a2 c2 w' hS => ?_)
      rw [hvl] at hS ⊢
      replace hS : St w No w' [ownL 3 1 encI (.slice a2 (k + 1) c2) (valsI s k ++ [((valB ((s.drop A).take j) : Nat) : Int)]), blk bl 3 (encI ((valB ((s.drop A).take j) : Nat) : Int))] := hS
      replace hS := hS.keep 1
      rw [← hst] at hS
      (conv => whnf)
      refine RngC.mk (by omega) (by omega) ?_
      (conv => whnf)
      refine LoopE.mk ⟨_, [(7, .int .i64 ((k + 1 : Nat) : Int)), (6, .int .i64 ((atE (k + 1) : Nat) : Int)), (5, _), (1, _), (0, _)], ?_, ⟨rfl, by rw [hB]; rfl, rfl, rfl, rfl, trivial⟩, ⟨k + 1, a2, c2, rfl, rfl, by omega, hS⟩⟩
      omega
  · obtain rfl : k = 6 := by omega
    repeat' ((conv => whnf); first | refine RetC.mk ?_ | refine NzC.mk (by decide) ?_ | refine RngC.mk (by omega) (by omega) ?_ | refine IdxC.mk (by omega) (by omega) ?_ | refine brD (fun _ => ?_) (fun _ => ?_) | refine brND (fun _ => ?_) (fun _ => ?_) | refine brN (fun _ => ?_) (fun _ => ?_) | refine brI (fun _ => ?_) (fun _ => ?_))
    exact ⟨⟨a', d, rfl, hS.get 0 rfl, hS.freshAt 0 rfl⟩, hS.ext⟩
theorem ownI_some {w : World} {a : Option Addr} {n c : Nat} {xs : List Int} (h : (ownL 3 1 encI (.slice a n c) xs).holds w) (hn : xs ≠ []) : ∃ b, a = some ⟨b, 0, none⟩ := by
  obtain ⟨h1, ⟨h2, h3⟩ | ⟨g, cap, cur, h2, _⟩⟩ := h
  · exact absurd (List.eq_nil_of_length_eq_zero h3) hn
  · cases h2
    exact ⟨g, rfl⟩
theorem ownI_cell {w : World} {b n c j : Nat} {xs : List Int} {x : Int} (h : (ownL 3 1 encI (.slice (some ⟨b, 0, none⟩) n c) xs).holds w) (hj : xs[j]? = some x) : w.cell? ⟨b, 0 + j * 1, none⟩ = some (.int .i64 x) := by
  have hn := (ownL_slc (G := fun _ => True) codN1 h fun _ _ => trivial).len
  have hlt := (List.getElem?_eq_some_iff.1 hj).1
  obtain ⟨b', o', x', h1, _, h2, _, h3⟩ := (ownL_slc (G := fun _ => True) codN1 h fun _ _ => trivial).at (k := j) (by omega)
  cases h2
  rw [hj] at h1
  cases h1
  exact h3 0 _ rfl
theorem valsI_six (s : List UInt8) : valsI s 6 = [(pktOf s).proto, (pktOf s).sa, (pktOf s).sp, (pktOf s).da, (pktOf s).dp, (pktOf s).flags] := rfl
theorem packetOf_ok (s : List UInt8) (w : World) : CallC Tryz.prog 9 #[.string (bs s)] w fun v w' => v = .tuple #[.agg (encPkt (decodeS s).1).toArray, .int .i64 ((decodeS s).2 : Nat)] ∧ Ext No w w' := by
  have hsz := bs_size s
  unfold decodeS
  refine fn_intro tabOk Tryz.func9 (by kernel_rfl) rfl Tryz.ntmps9 (Nat.le_of_ble_eq_true rfl) ?_
  have hS := St.start w No
  (conv => whnf)
  refine hS.new (fun b2 w' hb2 hS => ?_)
  replace hS : St w No w' [blk b2 26 (encPkt noPkt)] := hS
  (conv => whnf)
  refine brND (fun h1 => ?_) (fun h1 => ?_)
  · rw [if_pos (by omega)]
    (conv => whnf)
    refine hS.st 0 rfl (Nat.le_of_ble_eq_true rfl) rfl (fun w' hS => ?_)
    (conv => whnf)
    refine hS.laX 0 rfl rfl ?_
    repeat' ((conv => whnf); first | refine RetC.mk ?_ | refine NzC.mk (by decide) ?_ | refine RngC.mk (by omega) (by omega) ?_ | refine IdxC.mk (by omega) (by omega) ?_ | refine brD (fun _ => ?_) (fun _ => ?_) | refine brND (fun _ => ?_) (fun _ => ?_) | refine brN (fun _ => ?_) (fun _ => ?_) | refine brI (fun _ => ?_) (fun _ => ?_))
    exact ⟨rfl, hS.ext⟩
  have h14 : s.length = 14 := by omega
  rw [if_neg (by omega)]
  (conv => whnf)
  refine hS.lit (cs := endsI.map (.int .i64)) Tryz.underlying62 (sz := 1) (by kernel_rfl) (z := .int .i64 0) (by kernel_rfl) rfl rfl (by rfl) (fun bl w' hbl hS => ?_)
  have hx : Slc w' 1 encI (fun _ => True) (some ⟨bl, 0, none⟩) 6 endsI := Slc.of_blk codN1 (hS.blk 1 rfl) rfl (by decide) (fun _ _ => trivial) rfl
  (conv => whnf)
  refine (numbers_ok s h14 hx).mono ?_
  rintro v w3 ⟨⟨a', d, rfl, ho, hf⟩, hx'⟩
  replace hS := hS.madeL hx' ho hf
  clear hx hx' ho hf
  rw [valsI_six] at hS
  generalize pktOf s = p at hS ⊢
  obtain ⟨b, rfl⟩ := ownI_some (hS.get 2 rfl) (by simp)
  (conv => whnf)
  (refine drawS tabOk mixed [] ((· ≠ b)) [0, 1, 2, 3, 4, 5, 6, 7, 8, 9, 10, 11, 12, 13, 14, 15, 16, 17, 18, 19, 20, 21, 22] (by kernel_rfl) ?_; rintro w1 rfl; replace hS := hS.drew)
  have hK := hS.ref (· ≠ b)
  (conv => whnf)
  refine IdxC.mk (by omega) (by omega) ?_
  (conv => whnf)
  refine Ev.ldFc (ownI_cell (j := 0) (hS.get 2 rfl) rfl) (fun h => h rfl) ?_
  (conv => whnf)
  refine IdxC.mk (by omega) (by omega) ?_
  (conv => whnf)
  refine Ev.ldFc (ownI_cell (j := 1) (hS.get 2 rfl) rfl) (fun h => h rfl) ?_
  (conv => whnf)
  refine IdxC.mk (by omega) (by omega) ?_
  (conv => whnf)
  refine Ev.ldFc (ownI_cell (j := 2) (hS.get 2 rfl) rfl) (fun h => h rfl) ?_
  (conv => whnf)
  refine IdxC.mk (by omega) (by omega) ?_
  (conv => whnf)
  refine Ev.ldFc (ownI_cell (j := 3) (hS.get 2 rfl) rfl) (fun h => h rfl) ?_
  (conv => whnf)
  refine IdxC.mk (by omega) (by omega) ?_
  (conv => whnf)
  refine Ev.ldFc (ownI_cell (j := 4) (hS.get 2 rfl) rfl) (fun h => h rfl) ?_
  (conv => whnf)
  refine IdxC.mk (by omega) (by omega) ?_
  (conv => whnf)
  refine Ev.ldFc (ownI_cell (j := 5) (hS.get 2 rfl) rfl) (fun h => h rfl) ?_
  (conv => whnf)
  refine hS.newK hK (fun b5 w' hK hS => KeepC.mk hK ?_)
  (conv => whnf)
  refine hS.stK hK 3 rfl (Nat.le_of_ble_eq_true rfl) rfl (fun e => hS.apartAt 3 2 rfl rfl (by decide) b5 (List.mem_singleton.2 rfl) (by simp [ownL, own, Value.ownBlock, e])) (fun w' hK hS => KeepC.mk hK ?_)
  clear hK
  replace hS := hS.sel [0, 3] (by decide)
  replace hS : St w No w' [blk b2 26 (encPkt noPkt), blk b5 26 (encPkt p)] := hS
  (conv => whnf)
  refine hS.laX 1 rfl rfl ?_
  (conv => whnf)
  refine (perror_ok p _).mono ?_
  rintro v w5 ⟨rfl, hx⟩
  replace hS := hS.no hx
  (conv => whnf)
  refine brD (fun h5 => ?_) (fun h5 => ?_)
  · rw [if_neg (by omega)]
    (conv => whnf)
    refine hS.st 0 rfl (Nat.le_of_ble_eq_true rfl) rfl (fun w' hS => ?_)
    (conv => whnf)
    refine hS.laX 0 rfl rfl ?_
    repeat' ((conv => whnf); first | refine RetC.mk ?_ | refine NzC.mk (by decide) ?_ | refine RngC.mk (by omega) (by omega) ?_ | refine IdxC.mk (by omega) (by omega) ?_ | refine brD (fun _ => ?_) (fun _ => ?_) | refine brND (fun _ => ?_) (fun _ => ?_) | refine brN (fun _ => ?_) (fun _ => ?_) | refine brI (fun _ => ?_) (fun _ => ?_))
    exact ⟨rfl, hS.ext⟩
  · rw [if_pos (by omega)]
    (conv => whnf)
    refine hS.laX 1 rfl rfl ?_
    (conv => whnf)
    refine hS.st 0 rfl (Nat.le_of_ble_eq_true rfl) rfl (fun w' hS => ?_)
    (conv => whnf)
    refine hS.laX 0 rfl rfl ?_
    repeat' ((conv => whnf); first | refine RetC.mk ?_ | refine NzC.mk (by decide) ?_ | refine RngC.mk (by omega) (by omega) ?_ | refine IdxC.mk (by omega) (by omega) ?_ | refine brD (fun _ => ?_) (fun _ => ?_) | refine brND (fun _ => ?_) (fun _ => ?_) | refine brN (fun _ => ?_) (fun _ => ?_) | refine brI (fun _ => ?_) (fun _ => ?_))
    exact ⟨rfl, hS.ext⟩
end Go.Proofs.YtcioicoedmmkhaaGreatDoor

namespace Go.Proofs.YtcioicoedmmkhaaGreatDoor
open Go Ev
theorem endQ_of {s a c : List UInt8} (h : cutR 58 s = [a, c]) : (endB (numS a 9) (numS c 9) = true → endT (numS a 9) (numS c 9) = s) ∧ EndR s (numS a 9) (numS c 9) (endB (numS a 9) (numS c 9)) := by
  have key : endB (numS a 9) (numS c 9) = true → endT (numS a 9) (numS c 9) = s := fun he => by
    obtain ⟨h1, h2, h3, h4⟩ := endB_facts he
    obtain ⟨c1, _, e1⟩ := numS_canon h1
    obtain ⟨c2, _, e2⟩ := numS_canon (most := 9) (s := c) (by omega)
    unfold endT
    rw [e1, e2, canon_itoa c1, canon_itoa c2, ← join_cutR 58 s, h, join_cc, Lib.join_one]
    simp
  refine ⟨key, key, fun x' y' he hs => ?_⟩
  obtain ⟨h1, h2, h3, h4⟩ := endB_facts he
  obtain ⟨_, e⟩ := endT_cut he
  rw [hs, h] at e
  obtain ⟨rfl, e2⟩ := List.cons.inj e
  obtain ⟨rfl, _⟩ := List.cons.inj e2
  have n1 : numS (Lib.itoa x') 9 = x' := by
    obtain ⟨g1, g2⟩ := itoa_canon h1
    rw [canon_numS g1 (itoa_len9 h1 (by omega)), g2]
  have n2 : numS (Lib.itoa y') 9 = y' := by
    obtain ⟨g1, g2⟩ := itoa_canon (v := y') (by omega)
    rw [canon_numS g1 (itoa_len9 (by omega) (by omega)), g2]
  rw [n1, n2]
  exact ⟨he, rfl, rfl⟩
theorem endR_none {s : List UInt8} (h : (cutR 58 s).length ≠ 2) (x y : Int) : EndR s x y false := by
  refine ⟨fun h => (by cases h), fun x' y' he hs => ?_⟩
  obtain ⟨_, e⟩ := endT_cut he
  rw [hs] at e
  exact absurd (by rw [e]; rfl) h
theorem words58 {s : List UInt8} (h : (cutR 58 s).length = 2) : ∃ x y, cutR 58 s = [x, y] := by
  generalize cutR 58 s = l at h
  match l, h with
  | [a, b], _ => exact ⟨a, b, rfl⟩
theorem endOf_ok (s : List UInt8) (hl : s.length ≤ 100000) (w : World) :
    CallC Tryz.prog 37 #[.string (bs s)] w fun v w' => (∃ x y k, v = .tuple #[.agg #[.int .i64 x, .int .i64 y], .bool k] ∧ EndR s x y k ∧ (k = true → endB x y = true)) ∧ Ext No w w' := by
  refine fn_intro tabOk Tryz.func37 (by kernel_rfl) rfl Tryz.ntmps37 (Nat.le_of_ble_eq_true rfl) ?_
  have hS := St.start w No
  (conv => whnf)
  refine hS.new (fun b2 w' hb2 hS => ?_)
  replace hS : St w No w' [blk b2 24 [.int .i64 0, .int .i64 0]] := hS
  (conv => whnf)
  refine (rcut_ok s 58 hl _).mono ?_
  rintro v w2 ⟨⟨a0, d, rfl, ho, hf⟩, hx⟩
  replace hS := hS.madeL hx ho hf
  clear hx ho hf
  (conv => whnf)
  refine brND (fun h4 => ?_) (fun h4 => ?_)
  · have h4 := endR_none (s := s) (by omega)
    (conv => whnf)
    refine hS.st 0 rfl (Nat.le_of_ble_eq_true rfl) rfl (fun w' hS => ?_)
    (conv => whnf)
    refine hS.laX 0 rfl rfl ?_
    repeat' ((conv => whnf); first | refine RetC.mk ?_ | refine NzC.mk (by decide) ?_ | refine RngC.mk (by omega) (by omega) ?_ | refine IdxC.mk (by omega) (by omega) ?_ | refine brD (fun _ => ?_) (fun _ => ?_) | refine brND (fun _ => ?_) (fun _ => ?_) | refine brN (fun _ => ?_) (fun _ => ?_) | refine brI (fun _ => ?_) (fun _ => ?_))
    exact ⟨⟨0, 0, false, rfl, h4 0 0, fun h => (by cases h)⟩, hS.ext⟩
  obtain ⟨a, c, hw⟩ := words58 (s := s) (by omega)
  have m1 := cutR_mem_len (c := 58) (l := s) (w := a) (by rw [hw]; simp)
  have m2 := cutR_mem_len (c := 58) (l := s) (w := c) (by rw [hw]; simp)
  obtain ⟨hq, hr⟩ := endQ_of hw
  rw [hw] at hS ⊢
  have hl2 : ([a, c] : List (List UInt8)).length = 2 := rfl
  obtain ⟨b, rfl⟩ := ownT_some (hS.get 1 rfl) (by simp)
  generalize hx : numS a 9 = x at hq hr
  generalize hy : numS c 9 = y at hq hr
  (conv => whnf)
  refine DrawC.cut (fun σ w' => ∃ b5, σ = [(5, .pointer (some ⟨b5, 0, none⟩)), (2, .pointer (some ⟨b2, 0, none⟩))] ∧ St w No w' [blk b2 24 [.int .i64 0, .int .i64 0], ownL 9 1 encT (.slice (some ⟨b, 0, none⟩) 2 d) [a, c], blk b5 24 [.int .i64 x, .int .i64 y]]) ?_ ?_
  · refine drawT tabOk mixed [] ((· ≠ b)) (.take 0 (.take 1 (.take 2 (.take 4 (.take 5 (.take 6 (.alt 3 (.alt 7 (.take 8 (.alt 9 (.alt 10 .fin .fin) .fin)) (.alt 9 (.alt 7 (.take 8 (.alt 10 .fin .fin)) .fin) .fin)) (.alt 9 (.alt 3 (.alt 7 (.take 8 (.alt 10 .fin .fin)) .fin) .fin) .fin)))))))) (by kernel_rfl) ?_
    rintro w1 rfl
    replace hS := hS.drew
    have hK := hS.ref (· ≠ b)
    repeat' ((conv => whnf); first | refine And.intro ?_ ?_ | refine IdxC.mk (by omega) (by omega) ?_ | refine Ev.ldFc (ownT_cell (j := 0) (hS.get 1 rfl) rfl) (fun h => h rfl) ?_ | refine Ev.ldFc (ownT_cell (j := 1) (hS.get 1 rfl) rfl) (fun h => h rfl) ?_ | (refine (numberOf_ok a 9 (by omega) (by omega) _).mono ?_; rintro v w5 ⟨rfl, hx'⟩; rw [hx]; replace hS := hS.no hx'; replace hK := hK.trans hx'.of_no; clear hx'; refine KeepC.mk hK ?_) | (refine (numberOf_ok c 9 (by omega) (by omega) _).mono ?_; rintro v w5 ⟨rfl, hx'⟩; rw [hy]; replace hS := hS.no hx'; replace hK := hK.trans hx'.of_no; clear hx'; refine KeepC.mk hK ?_) | (refine hS.newK hK (fun b5 w' hK hS => KeepC.mk hK ?_)) | refine hS.stK hK 2 rfl (Nat.le_of_ble_eq_true rfl) rfl (ownT_ne hS 2 1 rfl rfl (by decide)) (fun w' hK hS => KeepC.mk hK ?_))
    all_goals exact CutE.mk ⟨[(5, _), (2, _)], ⟨rfl, rfl, trivial⟩, _, rfl, hS⟩
  clear hS
  rintro _ w7 ⟨b5, rfl, hS⟩
  have hne := hS.ne 2 0 rfl rfl (by decide)
  (conv => whnf)
  (refine drawS tabOk mixed [] ((· = b2)) [0, 1, 2, 3, 4] (by kernel_rfl) ?_; rintro w1 rfl; replace hS := hS.drew)
  have hK := hS.ref (· = b2)
  (conv => whnf)
  refine hS.laXF 2 rfl rfl hne ?_
  (conv => whnf)
  refine hS.laXF 2 rfl rfl hne ?_
  (conv => whnf)
  refine (isEnd_ok x y _).mono ?_
  rintro v w8 ⟨rfl, hx'⟩
  replace hS := hS.no hx'
  replace hK := hK.trans hx'.of_no
  refine KeepC.mk hK ?_
  (conv => whnf)
  refine hS.stK hK 0 rfl (Nat.le_of_ble_eq_true rfl) rfl rfl (fun w' hK hS => KeepC.mk hK ?_)
  (conv => whnf)
  refine hS.laX 0 rfl rfl ?_
  repeat' ((conv => whnf); first | refine RetC.mk ?_ | refine NzC.mk (by decide) ?_ | refine RngC.mk (by omega) (by omega) ?_ | refine IdxC.mk (by omega) (by omega) ?_ | refine brD (fun _ => ?_) (fun _ => ?_) | refine brND (fun _ => ?_) (fun _ => ?_) | refine brN (fun _ => ?_) (fun _ => ?_) | refine brI (fun _ => ?_) (fun _ => ?_))
  exact ⟨⟨x, y, _, rfl, hr, id⟩, hS.ext⟩
theorem keyH4 {s t a b f : List UInt8} (hw : cutR 32 s = [t, a, b, f]) (h : t ≠ sTcp ∨ flagOf f 16 = none) : PktR s noPkt false := by
  refine ⟨fun h => (by cases h), fun _ => rfl, fun q h1 h2 => ?_⟩
  obtain ⟨f1, f2, f3, f4, f5⟩ := err_facts h1
  have hc := text_cut h1
  rw [h2, hw] at hc
  split at hc
  · simp at hc
  · simp only [List.cons.injEq, and_true] at hc
    obtain ⟨rfl, rfl, rfl, rfl⟩ := hc
    rcases h with h | h
    · exact absurd rfl h
    · obtain ⟨pr, sa, sp, da, dp, fl⟩ := q
      dsimp only at f4 f5 h
      obtain ⟨fl, rfl⟩ : ∃ n : Nat, fl = n := ⟨fl.toNat, by omega⟩
      rw [flagOf_eq (n := fl) (by omega)] at h
      cases h
theorem keyH3 {s t a b : List UInt8} (hw : cutR 32 s = [t, a, b]) (h : t ≠ sUdp) : PktR s noPkt false := by
  refine ⟨fun h => (by cases h), fun _ => rfl, fun q h1 h2 => ?_⟩
  have hc := text_cut h1
  rw [h2, hw] at hc
  split at hc
  · simp only [List.cons.injEq, and_true] at hc
    exact absurd hc.1 h
  · simp at hc
theorem keyE {s : List UInt8} {p : PktS} {ka kb : Bool} (key : ∀ q : PktS, q.err = 0 → q.text = s → ka = true ∧ kb = true ∧ p = q) (h : ka = false ∨ kb = false) : PktR s noPkt false := by
  refine pktR_bad key ?_
  rcases h with h | h
  · exact .inr (.inr (.inl h))
  · exact .inr (.inr (.inr h))
theorem pktG3 {s : List UInt8} {x1 y1 x2 y2 : Int} {a b : List UInt8} (hw : cutR 32 s = [sUdp, a, b]) (h1 : endT x1 y1 = a) (h2 : endT x2 y2 = b) (b1 : endB x1 y1 = true) (b2 : endB x2 y2 = true) (ka kb : Bool) (key : ∀ q : PktS, q.err = 0 → q.text = s → ka = true ∧ kb = true ∧ (⟨1, x1, y1, x2, y2, 0⟩ : PktS) = q) : PktR s ⟨1, x1, y1, x2, y2, 0⟩ true := by
  refine pktR_good key (err_of (.inl ⟨rfl, rfl⟩) b1 b2 ⟨by dsimp only; omega, by dsimp only; omega⟩) ?_
  rw [← join_cutR 32 s, hw, join_cc, join_cc, Lib.join_one]
  unfold PktS.text
  rw [if_pos rfl, h1, h2]
  simp [sUdp]
theorem pktG4 {s : List UInt8} {x1 y1 x2 y2 : Int} {a b f : List UInt8} {n : Nat} (hw : cutR 32 s = [sTcp, a, b, f]) (h1 : endT x1 y1 = a) (h2 : endT x2 y2 = b) (b1 : endB x1 y1 = true) (b2 : endB x2 y2 = true) (hf : flagOf f 16 = some n) (ka kb : Bool) (key : ∀ q : PktS, q.err = 0 → q.text = s → ka = true ∧ kb = true ∧ (⟨2, x1, y1, x2, y2, (((flagOf f 16).getD 0 : Nat) : Int)⟩ : PktS) = q) : PktR s ⟨2, x1, y1, x2, y2, (((flagOf f 16).getD 0 : Nat) : Int)⟩ true := by
  obtain ⟨g1, g2⟩ := flagOf_some hf
  have hn : ((((flagOf f 16).getD 0 : Nat) : Int)) = (n : Int) := by rw [hf]; rfl
  refine pktR_good key (err_of (.inr rfl) b1 b2 ⟨by dsimp only; omega, by dsimp only; omega⟩) ?_
  rw [hn, ← join_cutR 32 s, hw, join_cc, join_cc, join_cc, Lib.join_one]
  unfold PktS.text
  rw [if_neg (by dsimp only; omega)]
  dsimp only
  rw [h1, h2, g2]
  simp [sTcp]
theorem rpacketRead_ok (s : List UInt8) (hl : s.length ≤ 100000) (w : World) :
    CallC Tryz.prog 12 #[.string (bs s)] w fun v w' => (∃ p k, v = .tuple #[.agg (encPkt p).toArray, .bool k] ∧ PktR s p k) ∧ Ext No w w' := by
  refine fn_intro tabOk Tryz.func12 (by kernel_rfl) rfl Tryz.ntmps12 (Nat.le_of_ble_eq_true rfl) ?_
  have hS := St.start w No
  (conv => whnf)
  refine hS.new (fun b2 w' hb2 hS => ?_)
  replace hS : St w No w' [blk b2 26 (encPkt noPkt)] := hS
  (conv => whnf)
  refine (rcut_ok s 32 hl _).mono ?_
  rintro v w2 ⟨⟨a0, d, rfl, ho, hf⟩, hx⟩
  replace hS := hS.madeL hx ho hf
  clear hx ho hf
  have hmem : ∀ t ∈ cutR 32 s, t.length ≤ s.length := fun t h => cutR_mem_len h
  obtain ⟨b, rfl⟩ := ownT_some (hS.get 1 rfl) (cutR_ne 32 s)
  obtain ⟨t, rest, hw⟩ := cutR_cons 32 s
  (conv => whnf)
  refine hS.new (fun b5 w' hb5 hS => ?_)
  (conv => whnf)
  refine hS.st 2 rfl (Nat.le_of_ble_eq_true rfl) rfl (fun w' hS => ?_)
  replace hS : St w No w' [blk b2 26 (encPkt noPkt), ownL 9 1 encT (.slice (some ⟨b, 0, none⟩) (cutR 32 s).length d) (cutR 32 s), blk b5 26 (encPkt ⟨1, 0, 0, 0, 0, 0⟩)] := hS
  have hat0 : (cutR 32 s)[0]? = some t := by rw [hw]; rfl
  have hpos : 0 < (cutR 32 s).length := by rw [hw]; simp
  (conv => whnf)
  refine brD (fun h4 => ?_) (fun h4 => ?_)
  · (conv => whnf)
    refine IdxC.mk (by omega) (by omega) ?_
    (conv => whnf)
    refine Ev.ldc (ownT_cell (j := 0) (hS.get 1 rfl) hat0) ?_
    (conv => whnf)
    refine eqS2 ?_
    obtain ⟨t', a1, a2, f, hw4⟩ := words4 (s := s) (by omega)
    obtain rfl : t = t' := by
      rw [hw4] at hw
      exact (List.cons.inj hw).1.symm
    rw [hw4] at hS hmem ⊢
    have hl4 : ([t, a1, a2, f] : List (List UInt8)).length = 4 := rfl
    have m1 := hmem a1 (by simp)
    have m2 := hmem a2 (by simp)
    (conv => whnf)
    refine brD (fun h5 => ?_) (fun h5 => ?_)
    · have h5 : t = sTcp := h5
      subst h5
      (conv => whnf)
      refine hS.st 2 rfl (Nat.le_of_ble_eq_true rfl) rfl (fun w' hS => ?_)
      (conv => whnf)
      refine loopR tabOk (fun σ w' q => ∃ (k : Nat), σ = [(7, .int .i64 (k : Int)), (6, .bool (flagOf f k).isSome), (5, .pointer (some ⟨b5, 0, none⟩)), (4, .slice (some ⟨b, 0, none⟩) 4 d), (2, .pointer (some ⟨b2, 0, none⟩))] ∧ q = 16 - k ∧ k ≤ 16 ∧ St w No w' [blk b2 26 (encPkt noPkt), ownL 9 1 encT (.slice (some ⟨b, 0, none⟩) 4 d) [sTcp, a1, a2, f], blk b5 26 (encPkt ⟨2, 0, 0, 0, 0, (((flagOf f k).getD 0 : Nat) : Int)⟩)])
        (σ' := [(7, .int .i64 ((0 : Nat) : Int)), (6, .bool false), (5, .pointer (some ⟨b5, 0, none⟩)), (4, .slice (some ⟨b, 0, none⟩) 4 d), (2, .pointer (some ⟨b2, 0, none⟩))]) (n := 16) ⟨rfl, rfl, rfl, rfl, rfl, trivial⟩ ⟨0, rfl, rfl, Nat.zero_le _, hS⟩ ?_
      clear hS
      rintro _ w5 q ⟨k, rfl, rfl, hk, hS⟩
      (conv => whnf)
      refine brD (fun h3 => ?_) (fun h3 => ?_)
      · have hst : flagOf f (k + 1) = if ftext (k : Nat) = f then some k else flagOf f k := rfl
        (conv => whnf)
        (refine drawS tabOk mixed [] (No) [0, 2, 3, 4, 1, 5] (by kernel_rfl) ?_; rintro w1 rfl; replace hS := hS.drew)
        have hK := hS.ref No
        (conv => whnf)
        refine IdxC.mk (by omega) (by omega) ?_
        (conv => whnf)
        refine Ev.ldFc (ownT_cell (j := 3) (hS.get 1 rfl) rfl) id ?_
        (conv => whnf)
        refine (flagsText_ok (k : Int) ⟨by omega, by omega⟩ _).mono ?_
        rintro v w6 ⟨rfl, hx⟩
        replace hS := hS.no hx
        refine KeepC.mk (hK.trans hx) ?_
        clear hx hK
        (conv => whnf)
        refine eqS2 ?_
        (conv => whnf)
        refine brD (fun h5 => ?_) (fun h5 => ?_)
        · rw [if_pos h5] at hst
          (conv => whnf)
          refine hS.st 2 rfl (Nat.le_of_ble_eq_true rfl) rfl (fun w' hS => ?_)
          (conv => whnf)
          refine RngC.mk (by omega) (by omega) ?_
          (conv => whnf)
          refine LoopE.mk ⟨_, [(7, .int .i64 ((k + 1 : Nat) : Int)), (6, .bool (flagOf f (k + 1)).isSome), (5, _), (4, _), (2, _)], ?_, ⟨rfl, by rw [hst]; rfl, rfl, rfl, rfl, trivial⟩, ⟨k + 1, rfl, rfl, by omega, by rw [hst]; exact hS⟩⟩
          omega
        · rw [if_neg h5] at hst
          (conv => whnf)
          refine RngC.mk (by omega) (by omega) ?_
          (conv => whnf)
          refine LoopE.mk ⟨_, [(7, .int .i64 ((k + 1 : Nat) : Int)), (6, .bool (flagOf f (k + 1)).isSome), (5, _), (4, _), (2, _)], ?_, ⟨rfl, by rw [hst]; rfl, rfl, rfl, rfl, trivial⟩, ⟨k + 1, rfl, rfl, by omega, by rw [hst]; exact hS⟩⟩
          omega
      · obtain rfl : k = 16 := by omega
        cases hfo : flagOf f 16 with
        | none =>
          have hbad := keyH4 hw4 (.inr hfo)
          (conv => whnf)
          refine hS.st 0 rfl (Nat.le_of_ble_eq_true rfl) rfl (fun w' hS => ?_)
          (conv => whnf)
          refine hS.laX 0 rfl rfl ?_
          repeat' ((conv => whnf); first | refine RetC.mk ?_ | refine NzC.mk (by decide) ?_ | refine RngC.mk (by omega) (by omega) ?_ | refine IdxC.mk (by omega) (by omega) ?_ | refine brD (fun _ => ?_) (fun _ => ?_) | refine brND (fun _ => ?_) (fun _ => ?_) | refine brN (fun _ => ?_) (fun _ => ?_) | refine brI (fun _ => ?_) (fun _ => ?_))
          exact ⟨⟨noPkt, false, rfl, hbad⟩, hS.ext⟩
        | some n =>
          (conv => whnf)
          refine IdxC.mk (by omega) (by omega) ?_
          (conv => whnf)
          refine Ev.ldc (ownT_cell (j := 1) (hS.get 1 rfl) rfl) ?_
          (conv => whnf)
          refine (endOf_ok a1 (by omega) _).mono ?_
          rintro v w5 ⟨⟨x1, y1, ka, rfl, hra, hea⟩, hx⟩
          replace hS := hS.no hx
          clear hx
          (conv => whnf)
          refine hS.new (fun b8 w' hb8 hS => ?_)
          (conv => whnf)
          refine hS.st 3 rfl (Nat.le_of_ble_eq_true rfl) rfl (fun w' hS => ?_)
          (conv => whnf)
          refine IdxC.mk (by omega) (by omega) ?_
          (conv => whnf)
          refine Ev.ldc (ownT_cell (j := 2) (hS.get 1 rfl) rfl) ?_
          (conv => whnf)
          refine (endOf_ok a2 (by omega) _).mono ?_
          rintro v w6 ⟨⟨x2, y2, kb, rfl, hrb, heb⟩, hx⟩
          replace hS := hS.no hx
          clear hx
          (conv => whnf)
          refine hS.new (fun b10 w' hb10 hS => ?_)
          (conv => whnf)
          refine hS.st 4 rfl (Nat.le_of_ble_eq_true rfl) rfl (fun w' hS => ?_)
          have hkey := key4 hw4 hra hrb
          cases ka with
          | false =>
            have hbad := keyE hkey (.inl rfl)
            (conv => whnf)
            refine hS.st 0 rfl (Nat.le_of_ble_eq_true rfl) rfl (fun w' hS => ?_)
            (conv => whnf)
            refine hS.laX 0 rfl rfl ?_
            repeat' ((conv => whnf); first | refine RetC.mk ?_ | refine NzC.mk (by decide) ?_ | refine RngC.mk (by omega) (by omega) ?_ | refine IdxC.mk (by omega) (by omega) ?_ | refine brD (fun _ => ?_) (fun _ => ?_) | refine brND (fun _ => ?_) (fun _ => ?_) | refine brN (fun _ => ?_) (fun _ => ?_) | refine brI (fun _ => ?_) (fun _ => ?_))
            exact ⟨⟨noPkt, false, rfl, hbad⟩, hS.ext⟩
          | true =>
            cases kb with
            | false =>
              have hbad := keyE hkey (.inr rfl)
              (conv => whnf)
              refine hS.st 0 rfl (Nat.le_of_ble_eq_true rfl) rfl (fun w' hS => ?_)
              (conv => whnf)
              refine hS.laX 0 rfl rfl ?_
              repeat' ((conv => whnf); first | refine RetC.mk ?_ | refine NzC.mk (by decide) ?_ | refine RngC.mk (by omega) (by omega) ?_ | refine IdxC.mk (by omega) (by omega) ?_ | refine brD (fun _ => ?_) (fun _ => ?_) | refine brND (fun _ => ?_) (fun _ => ?_) | refine brN (fun _ => ?_) (fun _ => ?_) | refine brI (fun _ => ?_) (fun _ => ?_))
              exact ⟨⟨noPkt, false, rfl, hbad⟩, hS.ext⟩
            | true =>
              have hgood := pktG4 hw4 (hra.1 rfl) (hrb.1 rfl) (hea rfl) (heb rfl) hfo true true hkey
              (conv => whnf)
              refine hS.laX 3 rfl rfl ?_
              (conv => whnf)
              refine hS.st 2 rfl (Nat.le_of_ble_eq_true rfl) rfl (fun w' hS => ?_)
              (conv => whnf)
              refine hS.laX 4 rfl rfl ?_
              (conv => whnf)
              refine hS.st 2 rfl (Nat.le_of_ble_eq_true rfl) rfl (fun w' hS => ?_)
              (conv => whnf)
              refine hS.laX 2 rfl rfl ?_
              (conv => whnf)
              refine hS.st 0 rfl (Nat.le_of_ble_eq_true rfl) rfl (fun w' hS => ?_)
              (conv => whnf)
              refine hS.laX 0 rfl rfl ?_
              repeat' ((conv => whnf); first | refine RetC.mk ?_ | refine NzC.mk (by decide) ?_ | refine RngC.mk (by omega) (by omega) ?_ | refine IdxC.mk (by omega) (by omega) ?_ | refine brD (fun _ => ?_) (fun _ => ?_) | refine brND (fun _ => ?_) (fun _ => ?_) | refine brN (fun _ => ?_) (fun _ => ?_) | refine brI (fun _ => ?_) (fun _ => ?_))
              exact ⟨⟨_, true, rfl, hgood⟩, hS.ext⟩
    · have hbad := keyH4 hw4 (.inl h5)
      (conv => whnf)
      refine hS.st 0 rfl (Nat.le_of_ble_eq_true rfl) rfl (fun w' hS => ?_)
      (conv => whnf)
      refine hS.laX 0 rfl rfl ?_
      repeat' ((conv => whnf); first | refine RetC.mk ?_ | refine NzC.mk (by decide) ?_ | refine RngC.mk (by omega) (by omega) ?_ | refine IdxC.mk (by omega) (by omega) ?_ | refine brD (fun _ => ?_) (fun _ => ?_) | refine brND (fun _ => ?_) (fun _ => ?_) | refine brN (fun _ => ?_) (fun _ => ?_) | refine brI (fun _ => ?_) (fun _ => ?_))
      exact ⟨⟨noPkt, false, rfl, hbad⟩, hS.ext⟩
  · (conv => whnf)
    refine brND (fun h3 => ?_) (fun h3 => ?_)
    · have hbad := keyN (s := s) (by omega) (by omega)
      (conv => whnf)
      refine hS.st 0 rfl (Nat.le_of_ble_eq_true rfl) rfl (fun w' hS => ?_)
      (conv => whnf)
      refine hS.laX 0 rfl rfl ?_
      repeat' ((conv => whnf); first | refine RetC.mk ?_ | refine NzC.mk (by decide) ?_ | refine RngC.mk (by omega) (by omega) ?_ | refine IdxC.mk (by omega) (by omega) ?_ | refine brD (fun _ => ?_) (fun _ => ?_) | refine brND (fun _ => ?_) (fun _ => ?_) | refine brN (fun _ => ?_) (fun _ => ?_) | refine brI (fun _ => ?_) (fun _ => ?_))
      exact ⟨⟨noPkt, false, rfl, hbad⟩, hS.ext⟩
    obtain ⟨t', a1, a2, hw3⟩ := words3 (s := s) (by omega)
    obtain rfl : t = t' := by
      rw [hw3] at hw
      exact (List.cons.inj hw).1.symm
    rw [hw3] at hS hmem hpos ⊢
    have hl3 : ([t, a1, a2] : List (List UInt8)).length = 3 := rfl
    have m1 := hmem a1 (by simp)
    have m2 := hmem a2 (by simp)
    (conv => whnf)
    refine IdxC.mk (by omega) (by omega) ?_
    (conv => whnf)
    refine Ev.ldc (ownT_cell (j := 0) (hS.get 1 rfl) rfl) ?_
    (conv => whnf)
    refine neS2 ?_
    (conv => whnf)
    refine brND (fun h5 => ?_) (fun h5 => ?_)
    · have hbad := keyH3 hw3 h5
      (conv => whnf)
      refine hS.st 0 rfl (Nat.le_of_ble_eq_true rfl) rfl (fun w' hS => ?_)
      (conv => whnf)
      refine hS.laX 0 rfl rfl ?_
      repeat' ((conv => whnf); first | refine RetC.mk ?_ | refine NzC.mk (by decide) ?_ | refine RngC.mk (by omega) (by omega) ?_ | refine IdxC.mk (by omega) (by omega) ?_ | refine brD (fun _ => ?_) (fun _ => ?_) | refine brND (fun _ => ?_) (fun _ => ?_) | refine brN (fun _ => ?_) (fun _ => ?_) | refine brI (fun _ => ?_) (fun _ => ?_))
      exact ⟨⟨noPkt, false, rfl, hbad⟩, hS.ext⟩
    have h5 : t = sUdp := h5
    subst h5
    (conv => whnf)
    refine IdxC.mk (by omega) (by omega) ?_
    (conv => whnf)
    refine Ev.ldc (ownT_cell (j := 1) (hS.get 1 rfl) rfl) ?_
    (conv => whnf)
    refine (endOf_ok a1 (by omega) _).mono ?_
    rintro v w5 ⟨⟨x1, y1, ka, rfl, hra, hea⟩, hx⟩
    replace hS := hS.no hx
    clear hx
    (conv => whnf)
    refine hS.new (fun b8 w' hb8 hS => ?_)
    (conv => whnf)
    refine hS.st 3 rfl (Nat.le_of_ble_eq_true rfl) rfl (fun w' hS => ?_)
    (conv => whnf)
    refine IdxC.mk (by omega) (by omega) ?_
    (conv => whnf)
    refine Ev.ldc (ownT_cell (j := 2) (hS.get 1 rfl) rfl) ?_
    (conv => whnf)
    refine (endOf_ok a2 (by omega) _).mono ?_
    rintro v w6 ⟨⟨x2, y2, kb, rfl, hrb, heb⟩, hx⟩
    replace hS := hS.no hx
    clear hx
    (conv => whnf)
    refine hS.new (fun b10 w' hb10 hS => ?_)
    (conv => whnf)
    refine hS.st 4 rfl (Nat.le_of_ble_eq_true rfl) rfl (fun w' hS => ?_)
    have hkey := key3 hw3 hra hrb
    cases ka with
    | false =>
      have hbad := keyE hkey (.inl rfl)
      (conv => whnf)
      refine hS.st 0 rfl (Nat.le_of_ble_eq_true rfl) rfl (fun w' hS => ?_)
      (conv => whnf)
      refine hS.laX 0 rfl rfl ?_
      repeat' ((conv => whnf); first | refine RetC.mk ?_ | refine NzC.mk (by decide) ?_ | refine RngC.mk (by omega) (by omega) ?_ | refine IdxC.mk (by omega) (by omega) ?_ | refine brD (fun _ => ?_) (fun _ => ?_) | refine brND (fun _ => ?_) (fun _ => ?_) | refine brN (fun _ => ?_) (fun _ => ?_) | refine brI (fun _ => ?_) (fun _ => ?_))
      exact ⟨⟨noPkt, false, rfl, hbad⟩, hS.ext⟩
    | true =>
      cases kb with
      | false =>
        have hbad := keyE hkey (.inr rfl)
        (conv => whnf)
        refine hS.st 0 rfl (Nat.le_of_ble_eq_true rfl) rfl (fun w' hS => ?_)
        (conv => whnf)
        refine hS.laX 0 rfl rfl ?_
        repeat' ((conv => whnf); first | refine RetC.mk ?_ | refine NzC.mk (by decide) ?_ | refine RngC.mk (by omega) (by omega) ?_ | refine IdxC.mk (by omega) (by omega) ?_ | refine brD (fun _ => ?_) (fun _ => ?_) | refine brND (fun _ => ?_) (fun _ => ?_) | refine brN (fun _ => ?_) (fun _ => ?_) | refine brI (fun _ => ?_) (fun _ => ?_))
        exact ⟨⟨noPkt, false, rfl, hbad⟩, hS.ext⟩
      | true =>
        have hgood := pktG3 hw3 (hra.1 rfl) (hrb.1 rfl) (hea rfl) (heb rfl) true true hkey
        (conv => whnf)
        refine hS.laX 3 rfl rfl ?_
        (conv => whnf)
        refine hS.st 2 rfl (Nat.le_of_ble_eq_true rfl) rfl (fun w' hS => ?_)
        (conv => whnf)
        refine hS.laX 4 rfl rfl ?_
        (conv => whnf)
        refine hS.st 2 rfl (Nat.le_of_ble_eq_true rfl) rfl (fun w' hS => ?_)
        (conv => whnf)
        refine hS.laX 2 rfl rfl ?_
        (conv => whnf)
        refine hS.st 0 rfl (Nat.le_of_ble_eq_true rfl) rfl (fun w' hS => ?_)
        (conv => whnf)
        refine hS.laX 0 rfl rfl ?_
        repeat' ((conv => whnf); first | refine RetC.mk ?_ | refine NzC.mk (by decide) ?_ | refine RngC.mk (by omega) (by omega) ?_ | refine IdxC.mk (by omega) (by omega) ?_ | refine brD (fun _ => ?_) (fun _ => ?_) | refine brND (fun _ => ?_) (fun _ => ?_) | refine brN (fun _ => ?_) (fun _ => ?_) | refine brI (fun _ => ?_) (fun _ => ?_))
        exact ⟨⟨_, true, rfl, hgood⟩, hS.ext⟩
end Go.Proofs.YtcioicoedmmkhaaGreatDoor

namespace Go.Proofs.YtcioicoedmmkhaaGreatDoor
open Go Ev

def RuleS.I (r : RuleS) : Prop := I64 r.proto ∧ I64 r.low ∧ I64 r.top
def PktS.I (p : PktS) : Prop := I64 p.proto ∧ I64 p.sa ∧ I64 p.sp ∧ I64 p.da ∧ I64 p.dp ∧ I64 p.flags
end Go.Proofs.YtcioicoedmmkhaaGreatDoor

namespace Go.Proofs.YtcioicoedmmkhaaGreatDoor.Ev
open Go Go.ChangeShapes Go.WideShapes Go.ChangeAt Go.RowKit

theorem laidMetH_layVars {P : Program} {w0 w' : World} {L : List (String × DataW Unit)} {fuel : Nat}
    (hh : w'.heap = (w0.layVars P (L.filter fun x => x.2.handleName?.isNone)).heap)
    (hf : w0.layFits P (L.filter fun x => x.2.handleName?.isNone) [] = true)
    (hi : w0.layIfaces P (L.filter fun x => x.2.handleName?.isNone) w' = true)
    (hH : (L.filter fun x => x.2.handleName?.isSome && x.2.funcsIn?.isNone).all (handleAtB P w') = true)
    (hF : funcsRun P w' fuel ((funcsListed L).map (·.1)) = some ((funcsListed L).map (·.2.funcsOut))) : laidMetH P L w' := by
  refine laidMetH_of_parts3 (fuel := fuel) ?_ hH hF
  generalize (L.filter fun x => x.2.handleName?.isNone) = laid at hh hf hi ⊢
  have e1 : (laid.filter fun x => (laid.map (·.1)).contains x.1) = laid := List.filter_eq_self.2 fun x hx => List.contains_iff_mem.2 (List.mem_map.2 ⟨x, hx, rfl⟩)
  have e2 : (laid.filter fun x => !(laid.map (·.1)).contains x.1) = [] := List.filter_eq_nil_iff.2 fun x hx => by rw [List.contains_iff_mem.2 (List.mem_map.2 ⟨x, hx, rfl⟩)]; simp
  exact laidMet_layVars (w0 := w0) (laid.map (·.1)) [] (by rw [e1]; exact hh) (by rw [e1]; exact hf) (by rw [e1]; exact hi) (by rw [e2]; exact LaidIn.none)
theorem law_liftedS {C : Checked} {f : FuncId} {fn : Func} {s : ChangeSpec} {tb : TypeId} (L : List (String × DataW Unit)) (os : Os) (started : os.Started) (H : Type) (enc : TypeId × Value → H)
    (own : ownKnob C.prog.godebug = none) (hbody : fn.body.isNone = false) (noInit : C.prog.inits.idxOf? f = none) (hfn : C.prog.funcs[f]? = some fn) (hvars : s.vars = [])
    (hs : ∀ ds : List (DataW H), ds.length = fn.params.toList.length → (s.fn H (ds ++ [])).results = [.lit (.bool true)] ∧ (s.fn H (ds ++ [])).args = ds ∧ (s.fn H (ds ++ [])).vars = [])
    (hres : fn.resultTypes = #[tb]) (hbool : C.prog.underlying tb = some .bool) (hlaid : laidOutB C.prog = true) (hread : (fn.params.toList.all fun t => C.prog.readableRec t && decide (t < C.prog.types.size)) = true)
    (witness : ∃ (w : World) (tape : Tape) (i : Input), w.os = os ∧ (w.forCall tape i).Shaped C.prog ∧ i.vars = [] ∧ Input.okWide C.prog (w.forCall tape i) .any w.heap.size f i ∧
      ((s.pre enc C.prog fn [] false (w.forCall tape i).memory i.args ∧ laidMetH C.prog L (w.forCall tape i).memory) ∧ sizedMet enc C.prog fn (OpenSpec.ofChange s) false (w.forCall tape i).memory i.args) ∧ ({} : Assume).holds C.prog (lone (Frame.enter C.prog f i.args .normal) [] (w.forCall tape i)))
    (walk : ∀ (W : World) (args : List Value), W.ShapedOpen C.prog → ArgsOk C.prog W fn.params.toList args → laidMetH C.prog L W → CallC C.prog f args.toArray W fun v w' => v = .bool true ∧ Ext No W w') :
    ReturnsInHanded {} C os f .any (fun w args => (s.pre enc C.prog fn [] false w args ∧ laidMetH C.prog L w) ∧ sizedMet enc C.prog fn (OpenSpec.ofChange s) false w args) (s.post enc C.prog fn false true false false) := by
  refine returnsInHanded_of_calls own started noInit witness ?_
  intro w tape i _ hsh _ hok hpre _
  obtain ⟨_, _, _, fn', hfn', _, _, _, _, hval⟩ := hok
  obtain rfl : fn' = fn := Option.some.inj (hfn'.symm.trans hfn)
  obtain ⟨⟨⟨ds, gs, before, hw, _⟩, hx⟩, _⟩ := hpre
  have hW := DataW.Whole.of_heap (w' := w.forCall tape i) (by rfl) hw
  have hL : laidMetH C.prog L (w.forCall tape i) := hx.of_heap (by rfl)
  generalize w.forCall tape i = W at hval hW hL hsh ⊢
  generalize w.heap.size = base at hval
  generalize i.args = args at hval hW ⊢
  have goal : Calls C.prog f args W fun e W' => ∃ v, e = .returned v ∧ s.post enc C.prog fn' false true false false W args v W' := by
    have hW' := hW
    obtain ⟨p, q, hA, hV, rfl, hfz, hnd⟩ := hW
    rw [hvars] at hV
    obtain ⟨rfl, rfl⟩ := trodVars_none hV
    have hok := argsOk_of fn'.params.toList args.toList ds p (fun j t v ht hv => hval j t v (by simpa using ht) (by simpa using hv)) hA
    have hlen : ds.length = fn'.params.toList.length := by
      have : ∀ (ts : List TypeId) (vs : List Value) (ds : List (DataW H)) (ps : List MemPlace), DataW.TrodAll enc C.prog W 0 (fun _ => true) true ts vs ds ps → ds.length = ts.length := by
        intro ts
        induction ts with
        | nil => intro vs ds ps h; cases vs <;> cases ds <;> simp_all [DataW.TrodAll]
        | cons t ts ih =>
          intro vs ds ps h
          obtain ⟨v, vs', d, ds', p, q, rfl, rfl, rfl, h1, h2⟩ := trodAll_cons h
          simp [ih _ _ _ h2]
      exact this _ _ _ _ hA
    have hc := (walk W args.toList hsh hok hL).calls hfn hbody
    rw [Array.toArray_toList] at hc
    refine hc.mono fun e W' ⟨v, he, hv, hext⟩ => ?_
    subst he hv
    obtain ⟨e1, e2, e3⟩ := hs ds hlen
    have hlt : ∀ x ∈ p, x.block < W.heap.size := fun x hx => hW'.lt x (by simpa using hx)
    refine ⟨_, rfl, ds, [], p ++ [], [], p, [], hW', ?_, ?_, ?_, hext.below.frame _, fun h => by cases h⟩
    · rw [e1, hres]
      exact trodAll_mk1 (shut_bool hbool true)
    · rw [e2]
      exact trodAll_ext hlaid hext.below _ _ _ _ hread hA hlt
    · rw [hvars, e3]
      rfl
  refine goal.mono fun e W' ⟨v, he, hp⟩ => ?_
  subst he
  exact ChangeSpec.post_blind hp
end Go.Proofs.YtcioicoedmmkhaaGreatDoor.Ev
namespace Go.Proofs.YtcioicoedmmkhaaGreatDoor
open Go Ev Go.RowKit
theorem maxL_of {W : World} (h : W.ShapedOpen Tryz.prog) : MaxL W :=
  cell_of_shapedOpen_int (g := 14) (t := 3) (zero := #[.int .i64 0]) h (of_decide_eq_true (by kernel_rfl)) (by kernel_rfl) rfl (by kernel_rfl) (by kernel_rfl) Tryz.underlying3
theorem sent_of {n : String} {text : List UInt8} {L : List (String × DataW Unit)} {W : World} {g : Nat} (hl : laidMetH Tryz.prog L W) (hm : (n, .iface "*errors.errorString" (.ptr (.agg [.lit (.string text)]))) ∈ L)
    (hg : Tryz.prog.globalNamed n = some g) (ht : (Tryz.prog.globals[g]?).map (·.type) = some 28) : ∃ e, W.cell? ⟨g, 0, none⟩ = some e ∧ (e = .nilIface ∨ ∃ t p, e = .iface t p) := by
  obtain ⟨f, hf⟩ : ∃ f : Field, Tryz.prog.underlying 184 = some (.struct #[f]) ∧ f.type = 9 ∧ f.offset = 0 := ⟨_, Tryz.underlying184, rfl, rfl⟩
  obtain ⟨a, h1, _⟩ := sentinel1 (laid_one hl hm rfl) hg ht Tryz.underlying28 errStr_only Tryz.underlying182 hf.1 hf.2.1 hf.2.2 Tryz.underlying9 (by kernel_rfl) (by kernel_rfl)
  exact ⟨_, h1, .inr ⟨_, _, rfl⟩⟩
def synB : List UInt8 := [105, 110, 118, 97, 108, 105, 100, 32, 115, 121, 110, 116, 97, 120]
def rngB : List UInt8 := [118, 97, 108, 117, 101, 32, 111, 117, 116, 32, 111, 102, 32, 114, 97, 110, 103, 101]
theorem numV_of {L : List (String × DataW Unit)} {W : World} (hl : laidMetH Tryz.prog L W) (h1 : ("strconv.ErrSyntax", .iface "*errors.errorString" (.ptr (.agg [.lit (.string synB)]))) ∈ L) (h2 : ("strconv.ErrRange", .iface "*errors.errorString" (.ptr (.agg [.lit (.string rngB)]))) ∈ L) : NumV W :=
  ⟨sent_of hl h1 (by kernel_rfl) (by kernel_rfl), sent_of hl h2 (by kernel_rfl) (by kernel_rfl)⟩
end Go.Proofs.YtcioicoedmmkhaaGreatDoor

namespace Go.Proofs.YtcioicoedmmkhaaGreatDoor
open Go Ev
def PktS.prs (p : PktS) : List Pr := [.int p.proto, .int p.sa, .int p.sp, .int p.da, .int p.dp, .int p.flags]
theorem prs_pkt (f g : PktS) : (f.prs = g.prs) = (f = g) := by
  obtain ⟨a, b, c, d, e, f1⟩ := f
  obtain ⟨a', b', c', d', e', f'⟩ := g
  simp [PktS.prs]
theorem eqPktR {c d : PktS} {k : Value → Prop} (hk : k (.bool (decide (c = d)))) :
    PureC Tryz.prog (do eqGuard .eql 26 (.tmp 0) (.tmp 0) (.agg (encPkt c).toArray) (.agg (encPkt d).toArray); Go.binOp .eql 26 (.agg (encPkt c).toArray) (.agg (encPkt d).toArray)) k :=
  eqS (a := c.prs) (b := d.prs) (ks := [.int, .int, .int, .int, .int, .int]) (by kernel_rfl) (by kernel_rfl) (by kernel_rfl) rfl rfl (by simpa only [prs_pkt] using hk)
theorem nePktR {c d : PktS} {k : Value → Prop} (hk : k (.bool (!decide (c = d)))) :
    PureC Tryz.prog (do eqGuard .neq 26 (.tmp 0) (.tmp 0) (.agg (encPkt c).toArray) (.agg (encPkt d).toArray); Go.binOp .neq 26 (.agg (encPkt c).toArray) (.agg (encPkt d).toArray)) k :=
  neS (a := c.prs) (b := d.prs) (ks := [.int, .int, .int, .int, .int, .int]) (by kernel_rfl) (by kernel_rfl) (by kernel_rfl) rfl rfl (by simpa only [prs_pkt] using hk)
def pkt3 : PktS := ⟨2, 0, 1, 2, 3, 3⟩
theorem pkt3_facts : pkt3.err = 0 ∧ pkt3.text = [116, 99, 112, 32, 48, 58, 49, 32, 50, 58, 51, 32, 115, 121, 110, 43, 97, 99, 107] := by
  refine ⟨by decide, ?_⟩
  have h0 : Lib.itoa 0 = [48] := Lib.decDigits_one (i := 0) (by decide)
  have h1 : Lib.itoa 1 = [49] := Lib.decDigits_one (i := 1) (by decide)
  have h2 : Lib.itoa 2 = [50] := Lib.decDigits_one (i := 2) (by decide)
  have h3 : Lib.itoa 3 = [51] := Lib.decDigits_one (i := 3) (by decide)
  have hf : ftext 3 = [115, 121, 110, 43, 97, 99, 107] := by decide +kernel
  simp only [PktS.text, pkt3, endT, h0, h1, h2, h3, hf]
  decide
theorem read_ok {E : Nat → Addr} {n : Nat} (w : World) (hE : Errs w E n [2, 3]) (ht : Pow10 w) (hN : NamesV w) : CallC Tryz.prog 7 #[] w fun v w' => v = .bool true ∧ Ext No w w' := by
  obtain ⟨r1, r2⟩ := pkt3_facts
  refine fn_intro tabOk Tryz.func7 (by kernel_rfl) rfl Tryz.ntmps7 (Nat.le_of_ble_eq_true rfl) ?_
  have hS := St.start w No
  (conv => whnf)
  refine hS.new (fun b w' hb hS => ?_)
  (conv => whnf)
  refine hS.st 0 rfl (Nat.le_of_ble_eq_true rfl) rfl (fun w' hS => ?_)
  replace hS : St w No w' [blk b 26 (encPkt pkt3)] := hS
  (conv => whnf)
  refine hS.laX 0 rfl rfl ?_
  (conv => whnf)
  refine (ptextP_ok pkt3 _ (hE.ext hS.ext fun _ h => h.elim) (ht.no hS.ext) (hN.no hS.ext)).mono ?_
  rintro v w2 ⟨rfl, hx⟩
  replace hS := hS.no hx
  rw [r1, if_pos rfl, r2]
  (conv => whnf)
  refine eqS2 ?_
  (conv => whnf)
  refine hS.laX 0 rfl rfl ?_
  (conv => whnf)
  refine (pcheck_ok pkt3 _ (hE.ext hS.ext fun _ h => h.elim)).mono ?_
  rintro v w3 ⟨rfl, hx⟩
  replace hS := hS.no hx
  rw [r1]
  repeat' ((conv => whnf); first | refine RetC.mk ?_ | refine NzC.mk (by decide) ?_ | refine RngC.mk (by omega) (by omega) ?_ | refine IdxC.mk (by omega) (by omega) ?_ | refine brD (fun _ => ?_) (fun _ => ?_) | refine brND (fun _ => ?_) (fun _ => ?_) | refine brN (fun _ => ?_) (fun _ => ?_) | refine brI (fun _ => ?_) (fun _ => ?_))
  exact ⟨rfl, hS.ext⟩
theorem decodeS_code (s : List UInt8) : (decodeS s).2 < 12 := by
  unfold decodeS
  split
  · dsimp only
    omega
  split
  · dsimp only
    omega
  · exact PktS.err_code _
theorem packetReads_ok {E : Nat → Addr} (W : World) (hE : Errs W E W.heap.size allErrs) (hh : Handle W) (ht : Pow10 W) (hM : MaxL W) (hV : NumV W) (hN : NamesV W) (l s : List UInt8) :
    CallC Tryz.prog 3 #[.string (bs l), .string (bs s)] W fun v w' => v = .bool true ∧ Ext No W w' := by
  have hszl := bs_size l
  have hszs := bs_size s
  refine fn_intro tabOk Tryz.func3 (by kernel_rfl) rfl Tryz.ntmps3 (Nat.le_of_ble_eq_true rfl) ?_
  have hS := St.start W No
  (conv => whnf)
  refine (read_ok _ ((hE.sub rfl).ext hS.ext fun _ h => h.elim) (ht.no hS.ext) (hN.no hS.ext)).mono ?_
  rintro v w1 ⟨rfl, hx0⟩
  replace hS := hS.no hx0
  clear hx0
  (conv => whnf)
  refine brD (fun h1 => ?_) (fun h1 => ?_)
  · repeat' ((conv => whnf); first | refine RetC.mk ?_ | refine NzC.mk (by decide) ?_ | refine RngC.mk (by omega) (by omega) ?_ | refine IdxC.mk (by omega) (by omega) ?_ | refine brD (fun _ => ?_) (fun _ => ?_) | refine brND (fun _ => ?_) (fun _ => ?_) | refine brN (fun _ => ?_) (fun _ => ?_) | refine brI (fun _ => ?_) (fun _ => ?_))
    exact ⟨rfl, hS.ext⟩
  (conv => whnf)
  refine brD (fun h2 => ?_) (fun h2 => ?_)
  · repeat' ((conv => whnf); first | refine RetC.mk ?_ | refine NzC.mk (by decide) ?_ | refine RngC.mk (by omega) (by omega) ?_ | refine IdxC.mk (by omega) (by omega) ?_ | refine brD (fun _ => ?_) (fun _ => ?_) | refine brND (fun _ => ?_) (fun _ => ?_) | refine brN (fun _ => ?_) (fun _ => ?_) | refine brI (fun _ => ?_) (fun _ => ?_))
    exact ⟨rfl, hS.ext⟩
  (conv => whnf)
  refine (pdecode_ok l (by omega) _ ((hE.sub rfl).ext hS.ext fun _ h => h.elim)).mono ?_
  rintro v w2 ⟨rfl, hx⟩
  replace hS := hS.no hx
  clear hx
  (conv => whnf)
  refine hS.new (fun b6 w' hb6 hS => ?_)
  (conv => whnf)
  refine hS.st 0 rfl (Nat.le_of_ble_eq_true rfl) rfl (fun w' hS => ?_)
  (conv => whnf)
  refine (packetOf_ok l _).mono ?_
  rintro v w3 ⟨rfl, hx⟩
  replace hS := hS.no hx
  clear hx
  (conv => whnf)
  refine hS.new (fun b8 w' hb8 hS => ?_)
  (conv => whnf)
  refine hS.st 1 rfl (Nat.le_of_ble_eq_true rfl) rfl (fun w' hS => ?_)
  have hcd := decodeS_code l
  generalize decodeS l = D at hS hcd ⊢
  obtain ⟨p, e⟩ := D
  dsimp only at hcd ⊢
  replace hS : St W No w' [blk b6 26 (encPkt p), blk b8 26 (encPkt p)] := hS
  (conv => whnf)
  refine (coded1_same e hcd _ (hE.ext hS.ext fun _ h => h.elim) (hh.ext hS.ext)).mono ?_
  rintro v w4 ⟨rfl, hx⟩
  replace hS := hS.no hx
  clear hx
  (conv => whnf)
  refine hS.laX 0 rfl rfl ?_
  (conv => whnf)
  refine hS.laX 1 rfl rfl ?_
  (conv => whnf)
  refine nePktR ?_
  (conv => whnf)
  refine brND (fun h => absurd rfl h) (fun _ => ?_)
  (conv => whnf)
  refine (packetRead_ok s (by omega) _ (hM.no hS.ext) (hV.no hS.ext) (ht.no hS.ext) (hN.no hS.ext) ((hE.sub rfl).ext hS.ext fun _ h => h.elim)).mono ?_
  rintro v w5 ⟨⟨r, k, rfl, hr⟩, hx⟩
  replace hS := hS.no hx
  clear hx
  (conv => whnf)
  refine hS.st 0 rfl (Nat.le_of_ble_eq_true rfl) rfl (fun w' hS => ?_)
  (conv => whnf)
  refine (rpacketRead_ok s (by omega) _).mono ?_
  rintro v w6 ⟨⟨r2, k2, rfl, hr2⟩, hx⟩
  replace hS := hS.no hx
  clear hx
  obtain ⟨rfl, rfl⟩ := hr.same hr2
  (conv => whnf)
  refine hS.st 1 rfl (Nat.le_of_ble_eq_true rfl) rfl (fun w' hS => ?_)
  replace hS : St W No w' [blk b6 26 (encPkt r), blk b8 26 (encPkt r)] := hS
  cases k with
  | false =>
    obtain rfl := hr.2.1 rfl
    rw [if_neg (by decide)]
    (conv => whnf)
    refine (coded1_same 1 (by omega) _ (hE.ext hS.ext fun _ h => h.elim) (hh.ext hS.ext)).mono ?_
    rintro v w7 ⟨rfl, hx⟩
    replace hS := hS.no hx
    clear hx
    (conv => whnf)
    refine hS.laX 0 rfl rfl ?_
    (conv => whnf)
    refine eqPktR (c := noPkt) (d := noPkt) ?_
    repeat' ((conv => whnf); first | refine RetC.mk ?_ | refine NzC.mk (by decide) ?_ | refine RngC.mk (by omega) (by omega) ?_ | refine IdxC.mk (by omega) (by omega) ?_ | refine brD (fun _ => ?_) (fun _ => ?_) | refine brND (fun _ => ?_) (fun _ => ?_) | refine brN (fun _ => ?_) (fun _ => ?_) | refine brI (fun _ => ?_) (fun _ => ?_))
    exact ⟨rfl, hS.ext⟩
  | true =>
    obtain ⟨g1, g2⟩ := hr.1 rfl
    rw [if_pos rfl]
    (conv => whnf)
    refine hS.laX 0 rfl rfl ?_
    (conv => whnf)
    refine (ptextP_ok r _ ((hE.sub rfl).ext hS.ext fun _ h => h.elim) (ht.no hS.ext) (hN.no hS.ext)).mono ?_
    rintro v w7 ⟨rfl, hx⟩
    replace hS := hS.no hx
    clear hx
    rw [if_pos g1, g1, g2]
    (conv => whnf)
    refine hS.laX 0 rfl rfl ?_
    (conv => whnf)
    refine hS.laX 1 rfl rfl ?_
    (conv => whnf)
    refine eqPktR ?_
    (conv => whnf)
    refine brD (fun _ => ?_) (fun h => absurd rfl h)
    (conv => whnf)
    refine eqS2 ?_
    repeat' ((conv => whnf); first | refine RetC.mk ?_ | refine NzC.mk (by decide) ?_ | refine RngC.mk (by omega) (by omega) ?_ | refine IdxC.mk (by omega) (by omega) ?_ | refine brD (fun _ => ?_) (fun _ => ?_) | refine brND (fun _ => ?_) (fun _ => ?_) | refine brN (fun _ => ?_) (fun _ => ?_) | refine brI (fun _ => ?_) (fun _ => ?_))
    exact ⟨by simp, hS.ext⟩
theorem packetReads_walk {E : Nat → Addr} (W : World) (args : List Value) (hE : Errs W E W.heap.size allErrs) (hh : Handle W) (ht : Pow10 W) (hM : MaxL W) (hV : NumV W) (hN : NamesV W) (ha : ArgsOk Tryz.prog W [9, 9] args) :
    CallC Tryz.prog 3 args.toArray W fun v w' => v = .bool true ∧ Ext No W w' := by
  obtain ⟨v0, args, rfl, h0, ha⟩ := ha.cons
  obtain ⟨v1, args, rfl, h1, ha⟩ := ha.cons
  obtain rfl := ha.nil
  obtain ⟨s, rfl⟩ := arg_str Tryz.underlying9 h0
  obtain ⟨l, rfl⟩ := bs_of s
  obtain ⟨s, rfl⟩ := arg_str Tryz.underlying9 h1
  obtain ⟨l2, rfl⟩ := bs_of s
  exact packetReads_ok W hE hh ht hM hV hN l l2
end Go.Proofs.YtcioicoedmmkhaaGreatDoor
