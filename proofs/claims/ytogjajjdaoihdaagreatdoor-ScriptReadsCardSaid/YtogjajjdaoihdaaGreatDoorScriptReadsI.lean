/-
  Texts of this claim, joined: PolicyR, RefReadB, RefReadC, PktA, PktB, PktD, PktE, PktF, RefPkt.
-/
import Derived.Test.YtogjajjdaoihdaaGreatDoorScriptReadsH

namespace Go.Proofs.YtogjajjdaoihdaaGreatDoor
set_option maxRecDepth 20000
open Go Ev

def idxT (p : List UInt8) : List (List UInt8) → Nat → Int
 | [], _ => -1
 | x :: l, k => if p = x then (k : Int) else idxT p l (k + 1)
theorem idxT_step {p : List UInt8} {l : List (List UInt8)} {k : Nat} {x : List UInt8} (h : l[k]? = some x) : idxT p (l.drop k) k = if p = x then (k : Int) else idxT p (l.drop (k + 1)) (k + 1) := by
 obtain ⟨lt, e⟩ := List.getElem?_eq_some_iff.1 h
 rw [List.drop_eq_getElem_cons lt, e]
 rfl
theorem protoK_idx (p : List UInt8) : protoK p = idxT p [sAny, sUdp, sTcp] 0 := rfl
theorem idxT_ok {w : World} {G : List UInt8 → Prop} {a : Option Addr} {n c : Nat} {xs : List (List UInt8)} (p : List UInt8) (hx : Slc w 1 encT G a n xs) :
   CallC Tryz.prog 114 #[.slice a n c, .string (bs p)] w fun v w' => v = .int .i64 (idxT p xs 0) ∧ Ext No w w' := by
 have hm := hx.max
 have hl := hx.len
 refine fn_intro tabOk Tryz.func114 (by kernel_rfl) rfl Tryz.ntmps114 (lbO rfl) ?_
 have hS := St.start w No
 conv=>whnf
 refine loopR tabOk (fun σ w' q => ∃ k : Nat, σ = [(8, .int .i64 (k : Int)), (7, .int .i64 n), (1, .string (bs p)), (0, .slice a n c)] ∧ q = n - k ∧ k ≤ n ∧ St w No w' [] ∧ idxT p xs 0 = idxT p (xs.drop k) k)
   (σ' := [(8, .int .i64 ((0 : Nat) : Int)), (7, .int .i64 n), (1, .string (bs p)), (0, .slice a n c)]) (n := n) ⟨rfl, rfl, rfl, rfl, trivial⟩ ⟨0, rfl, rfl, Nat.zero_le _, hS, by simp⟩ ?_
 clear hS
 rintro _ w1 q ⟨k, rfl, rfl, hk, hS, hi⟩
 conv=>whnf
 refine brD (fun h3 => ?_) (fun h3 => ?_)
 · obtain ⟨b0, o0, x, hxk, hgx, rfl, _, hc⟩ := hx.at (k := k) (by omega)
   have hst := idxT_step (p := p) hxk
   conv=>whnf
   refine ixO ?_
   conv=>whnf
   refine hS.ldr (hc 0 _ rfl) id ?_
   conv=>whnf
   refine eqS2 ?_
   conv=>whnf
   refine brD (fun h4 => ?_) (fun h4 => ?_)
   · repeat' ((conv => whnf); first | refine RetC.mk ?_ | refine NzC.mk (by decide) ?_ | refine rgO ?_ | refine ixO ?_ | refine brD ?_ ?_ <;> (intro) | refine brND ?_ ?_ <;> (intro) | refine brN ?_ ?_ <;> (intro) | refine brI ?_ ?_ <;> (intro))
     rw [hi, hst, if_pos h4]
     exact ⟨rfl, hS.ext⟩
   · (conv => whnf)
     refine rgO ?_
     conv=>whnf
     refine LoopE.mk ⟨_, [(8, .int .i64 ((k + 1 : Nat) : Int)), (7, _), (1, _), (0, _)], ?_, ⟨rfl, rfl, rfl, rfl, trivial⟩, ⟨k + 1, rfl, rfl, by omega, hS, by rw [hi, hst, if_neg h4]⟩⟩
     omega
 · repeat' ((conv => whnf); first | refine RetC.mk ?_ | refine NzC.mk (by decide) ?_ | refine rgO ?_ | refine ixO ?_ | refine brD ?_ ?_ <;> (intro) | refine brND ?_ ?_ <;> (intro) | refine brN ?_ ?_ <;> (intro) | refine brI ?_ ?_ <;> (intro))
   have : k = n := by omega
   subst this
   rw [hi, List.drop_of_length_le (by omega)]
   exact ⟨rfl, hS.ext⟩
theorem protos_slc {w : World} (h : Protos w) : Slc w 1 encT (fun _ => True) (some ⟨13, 0, none⟩) 3 [sAny, sUdp, sTcp] :=
 Slc.of_cells codT rfl (by decide) (fun _ _ => trivial) fun j v hj => ⟨_, _, rfl, h j v hj⟩
theorem pnumber_ok (l : List UInt8) (w : World) (hl : l.length ≤ 100000) (hV : NumV w) (ht : Pow10 w) :
   CallC Tryz.prog 115 #[.string (bs l)] w fun v w' => (∃ n k, v = .tuple #[.int .i64 n, .bool k] ∧ I64 n ∧ ((k = true ∧ 0 ≤ n) ↔ 0 ≤ numS l 5) ∧ (0 ≤ numS l 5 → n = numS l 5)) ∧ Ext No w w' := by
 refine fn_intro tabOk Tryz.func115 (by kernel_rfl) rfl Tryz.ntmps115 (lbO rfl) ?_
 have hS := St.start w No
 conv=>whnf
 refine (atoi_ok l w hl hV).mono ?_
 rintro v w1 ⟨⟨n, e, rfl, hn, hcase⟩, hx⟩
 replace hS := hS.no hx
 rcases hcase with ⟨ha, rfl⟩ | ⟨ha, t, u, rfl⟩
 · obtain ⟨k1, k2⟩ := numS_atoi 5 (by omega) ha
   conv=>whnf
   refine brD (fun h5 => ?_) (fun h5 => ?_)
   · have h5 : l.length ≤ 5 := by
       have := bs_size l
       omega
     conv=>whnf
     refine (itoa_ok n hn.1 hn.2 _ (ht.no hS.ext)).mono ?_
     rintro v w2 ⟨rfl, hx⟩
     replace hS := hS.no hx
     conv=>whnf
     refine eqS2 ?_
     repeat' ((conv => whnf); first | refine RetC.mk ?_ | refine NzC.mk (by decide) ?_ | refine rgO ?_ | refine ixO ?_ | refine brD ?_ ?_ <;> (intro) | refine brND ?_ ?_ <;> (intro) | refine brN ?_ ?_ <;> (intro) | refine brI ?_ ?_ <;> (intro))
     refine ⟨⟨_, _, rfl, hn, ?_, k2⟩, hS.ext⟩
     rw [← k1, decide_eq_true_iff]
     exact ⟨fun h => ⟨⟨h5, h.1⟩, h.2⟩, fun h => ⟨h.1.2, h.2⟩⟩
   · have h5 : ¬ l.length ≤ 5 := by
       have := bs_size l
       omega
     repeat' ((conv => whnf); first | refine RetC.mk ?_ | refine NzC.mk (by decide) ?_ | refine rgO ?_ | refine ixO ?_ | refine brD ?_ ?_ <;> (intro) | refine brND ?_ ?_ <;> (intro) | refine brN ?_ ?_ <;> (intro) | refine brI ?_ ?_ <;> (intro))
     refine ⟨⟨_, _, rfl, hn, ?_, k2⟩, hS.ext⟩
     rw [← k1]
     exact ⟨fun h => (by cases h.1), fun h => absurd h.1.1 h5⟩
 · have hneg := numS_atoi_none (most := 5) (by omega) ha
   repeat' ((conv => whnf); first | refine RetC.mk ?_ | refine NzC.mk (by decide) ?_ | refine rgO ?_ | refine ixO ?_ | refine brD ?_ ?_ <;> (intro) | refine brND ?_ ?_ <;> (intro) | refine brN ?_ ?_ <;> (intro) | refine brI ?_ ?_ <;> (intro))
   exact ⟨⟨_, _, rfl, hn, ⟨fun h => (by cases h.1), fun h => absurd h (by omega)⟩, fun h => absurd h (by omega)⟩, hS.ext⟩
theorem cut_small (l : List UInt8) (c : UInt8) : ∃ x y k, Lib.cut l [c] = (x, y, k) ∧ x.length ≤ l.length ∧ y.length ≤ l.length := by
 unfold Lib.cut
 split
 · exact ⟨_, _, _, rfl, by rw [List.length_take]; omega, by rw [List.length_drop]; omega⟩
 · exact ⟨_, _, _, rfl, Nat.le_refl _, by simp⟩
theorem ruleOfS_is {s a b p n x y : List UInt8} {k : Bool} {q : RuleS} (hw : cutR 32 s = [a, b, p, n]) (hc : Lib.cut n [45] = (x, y, k)) (h : ruleOfS s = some q) : (⟨decide (a = sAllow), decide (b = sOut), protoK p, numS x 5, numS y 5⟩ : RuleS) = q := by
 unfold ruleOfS at h
 rw [hw] at h
 dsimp only at h
 split at h
 · split at h
   · rename_i x' y' hn
     have hcut := cut_two hn
     rw [Lib.join_one, hc] at hcut
     obtain ⟨e1, e2⟩ := Prod.mk.inj hcut
     obtain ⟨e2, _⟩ := Prod.mk.inj e2
     subst e1 e2
     split at h
     · exact Option.some.inj h
     · cases h
   · cases h
 · cases h
theorem pread_ok (s : List UInt8) (w : World) (hl : s.length ≤ 100000) (hM : MaxL w) (hV : NumV w) (ht : Pow10 w) (hP : Protos w) :
   CallC Tryz.prog 65 #[.string (bs s)] w fun v w' => (∃ r k, v = .tuple #[.agg (encRule r).toArray, .bool k] ∧ (ruleOfS s = if k = true then some r else none)) ∧ Ext No w w' := by
 refine fn_intro tabOk Tryz.func65 (by kernel_rfl) rfl Tryz.ntmps65 (lbO rfl) ?_
 have hS := St.start w No
 conv=>whnf
 refine hS.new (fun b2 w' hb2 hS => ?_)
 replace hS : St w No w' [blk b2 98 (encRule noRule)] := hS
 conv=>whnf
 refine (split_ok s 32 _ hl (hM.no hS.ext)).mono ?_
 rintro v w1 ⟨⟨b, rfl, hb, hB⟩, hx⟩
 replace hS := hS.made hx (blk_local _ _ _) hB (by intro c hc; obtain rfl := List.mem_singleton.1 hc; exact ⟨hb, hB.lt⟩)
 conv=>whnf
 refine brND (fun h4 => ?_) (fun h4 => ?_)
 · have h4 : (cutR 32 s).length ≠ 4 := by omega
   conv=>whnf
   refine hS.st 0 rfl (lbO rfl) rfl (fun w' hS => ?_)
   replace hS : St w No w' [blk b2 98 (encRule noRule), blk b 9 ((cutR 32 s).map fun l => .string (bs l))] := hS
   conv=>whnf
   refine hS.laX 0 rfl rfl ?_
   repeat' ((conv => whnf); first | refine RetC.mk ?_ | refine NzC.mk (by decide) ?_ | refine rgO ?_ | refine ixO ?_ | refine brD ?_ ?_ <;> (intro) | refine brND ?_ ?_ <;> (intro) | refine brN ?_ ?_ <;> (intro) | refine brI ?_ ?_ <;> (intro))
   exact ⟨⟨noRule, false, rfl, ruleOfS_words h4⟩, hS.ext⟩
 obtain ⟨a, b4, p, n, hw⟩ := words4 (s := s) (by omega)
 have hlen := cutR_len 32 s
 rw [hw] at hS ⊢
 have hl4 : ([a, b4, p, n] : List (List UInt8)).length = 4 := rfl
 replace hS : St w No w1 [blk b2 98 (encRule noRule), blk b 9 [.string (bs a), .string (bs b4), .string (bs p), .string (bs n)]] := hS
 conv=>whnf
 (refine drawS tabOk mixed [] (No) [0, 1, 2, 3, 4, 5] (by kernel_rfl) ?_; rintro w1 rfl; replace hS := hS.drew)
 conv=>whnf
 refine ixO ?_
 conv=>whnf
 refine hS.ldF 1 rfl rfl id ?_
 conv=>whnf
 refine (idxT_ok p (protos_slc (hP.no hS.ext))).mono ?_
 rintro v w2 ⟨rfl, hx⟩
 replace hS := hS.no hx
 refine KeepC.mk hx ?_
 rw [← protoK_idx]
 clear hx
 conv=>whnf
 refine ixO ?_
 conv=>whnf
 refine hS.ld 1 rfl rfl ?_
 have hjn := join_cutR 32 s
 have hnl : n.length ≤ s.length := by
   rw [← hjn, hw]
   simp only [join_cc, Lib.join_one, List.length_append]
   omega
 obtain ⟨x, y, k, hcut, hxl, hyl⟩ := cut_small n 45
 conv=>whnf
 refine (cutT_ok n 45 _ (by omega) (hM.no hS.ext)).mono ?_
 rintro v w3 ⟨rfl, hx⟩
 replace hS := hS.no hx
 rw [hcut]
 clear hx
 conv=>whnf
 refine (pnumber_ok x _ (by omega) (hV.no hS.ext) (ht.no hS.ext)).mono ?_
 rintro v w4 ⟨⟨n1, k1, rfl, i1, c1, e1⟩, hx⟩
 replace hS := hS.no hx
 clear hx
 conv=>whnf
 refine (pnumber_ok y _ (by omega) (hV.no hS.ext) (ht.no hS.ext)).mono ?_
 rintro v w5 ⟨⟨n2, k2, rfl, i2, c2, e2⟩, hx⟩
 replace hS := hS.no hx
 clear hx
 conv=>whnf
 refine brD (fun h1 => ?_) (fun h1 => ?_)
 · skip
   conv=>whnf
   refine hS.st 0 rfl (lbO rfl) rfl (fun w' hS => ?_)
   replace hS : St w No w' [blk b2 98 (encRule noRule), blk b 9 [.string (bs a), .string (bs b4), .string (bs p), .string (bs n)]] := hS
   conv=>whnf
   refine hS.laX 0 rfl rfl ?_
   repeat' ((conv => whnf); first | refine RetC.mk ?_ | refine NzC.mk (by decide) ?_ | refine rgO ?_ | refine ixO ?_ | refine brD ?_ ?_ <;> (intro) | refine brND ?_ ?_ <;> (intro) | refine brN ?_ ?_ <;> (intro) | refine brI ?_ ?_ <;> (intro))
   exact ⟨⟨noRule, false, rfl, ruleOfS_none hw hcut (.inl h1)⟩, hS.ext⟩
 cases k1 with
 | false =>
   have h2 : numS x 5 < 0 := Int.not_le.1 fun h => (by cases (c1.2 h).1)
   conv=>whnf
   refine hS.st 0 rfl (lbO rfl) rfl (fun w' hS => ?_)
   replace hS : St w No w' [blk b2 98 (encRule noRule), blk b 9 [.string (bs a), .string (bs b4), .string (bs p), .string (bs n)]] := hS
   conv=>whnf
   refine hS.laX 0 rfl rfl ?_
   repeat' ((conv => whnf); first | refine RetC.mk ?_ | refine NzC.mk (by decide) ?_ | refine rgO ?_ | refine ixO ?_ | refine brD ?_ ?_ <;> (intro) | refine brND ?_ ?_ <;> (intro) | refine brN ?_ ?_ <;> (intro) | refine brI ?_ ?_ <;> (intro))
   exact ⟨⟨noRule, false, rfl, ruleOfS_none hw hcut (.inr (.inl h2))⟩, hS.ext⟩
 | true =>
 cases k2 with
 | false =>
   have h2 : numS y 5 < 0 := Int.not_le.1 fun h => (by cases (c2.2 h).1)
   conv=>whnf
   refine hS.st 0 rfl (lbO rfl) rfl (fun w' hS => ?_)
   replace hS : St w No w' [blk b2 98 (encRule noRule), blk b 9 [.string (bs a), .string (bs b4), .string (bs p), .string (bs n)]] := hS
   conv=>whnf
   refine hS.laX 0 rfl rfl ?_
   repeat' ((conv => whnf); first | refine RetC.mk ?_ | refine NzC.mk (by decide) ?_ | refine rgO ?_ | refine ixO ?_ | refine brD ?_ ?_ <;> (intro) | refine brND ?_ ?_ <;> (intro) | refine brN ?_ ?_ <;> (intro) | refine brI ?_ ?_ <;> (intro))
   exact ⟨⟨noRule, false, rfl, ruleOfS_none hw hcut (.inr (.inr h2))⟩, hS.ext⟩
 | true =>
 conv=>whnf
 refine brD (fun h2 => ?_) (fun h2 => ?_)
 · have h3 : numS x 5 < 0 := Int.not_le.1 fun h => absurd (c1.2 h).2 (by omega)
   conv=>whnf
   refine hS.st 0 rfl (lbO rfl) rfl (fun w' hS => ?_)
   replace hS : St w No w' [blk b2 98 (encRule noRule), blk b 9 [.string (bs a), .string (bs b4), .string (bs p), .string (bs n)]] := hS
   conv=>whnf
   refine hS.laX 0 rfl rfl ?_
   repeat' ((conv => whnf); first | refine RetC.mk ?_ | refine NzC.mk (by decide) ?_ | refine rgO ?_ | refine ixO ?_ | refine brD ?_ ?_ <;> (intro) | refine brND ?_ ?_ <;> (intro) | refine brN ?_ ?_ <;> (intro) | refine brI ?_ ?_ <;> (intro))
   exact ⟨⟨noRule, false, rfl, ruleOfS_none hw hcut (.inr (.inl h3))⟩, hS.ext⟩
 conv=>whnf
 refine brD (fun h3 => ?_) (fun h3 => ?_)
 · have h4 : numS y 5 < 0 := Int.not_le.1 fun h => absurd (c2.2 h).2 (by omega)
   conv=>whnf
   refine hS.st 0 rfl (lbO rfl) rfl (fun w' hS => ?_)
   replace hS : St w No w' [blk b2 98 (encRule noRule), blk b 9 [.string (bs a), .string (bs b4), .string (bs p), .string (bs n)]] := hS
   conv=>whnf
   refine hS.laX 0 rfl rfl ?_
   repeat' ((conv => whnf); first | refine RetC.mk ?_ | refine NzC.mk (by decide) ?_ | refine rgO ?_ | refine ixO ?_ | refine brD ?_ ?_ <;> (intro) | refine brND ?_ ?_ <;> (intro) | refine brN ?_ ?_ <;> (intro) | refine brI ?_ ?_ <;> (intro))
   exact ⟨⟨noRule, false, rfl, ruleOfS_none hw hcut (.inr (.inr h4))⟩, hS.ext⟩
 have g1 : 0 ≤ numS x 5 := c1.1 ⟨rfl, by omega⟩
 have g2 : 0 ≤ numS y 5 := c2.1 ⟨rfl, by omega⟩
 obtain rfl := e1 g1
 obtain rfl := e2 g2
 have hiff := ruleOfS_some hw hcut (by omega) g1 g2
 generalize hr : (⟨decide (a = sAllow), decide (b4 = sOut), protoK p, numS x 5, numS y 5⟩ : RuleS) = r at hiff
 have hp2 := (protoK_b (p := p) (by omega)).2
 conv=>whnf
 (refine drawS tabOk mixed [] ((· ≠ b)) [0, 1, 2, 3, 4, 5, 6, 7, 8, 9, 10, 11, 12, 13] (by kernel_rfl) ?_; rintro w1 rfl; replace hS := hS.drew)
 have hK := hS.ref (· ≠ b)
 conv=>whnf
 refine ixO ?_
 conv=>whnf
 refine hS.ldF 1 rfl rfl (fun h => h rfl) ?_
 conv=>whnf
 refine eqS2 ?_
 conv=>whnf
 refine ixO ?_
 conv=>whnf
 refine hS.ldF 1 rfl rfl (fun h => h rfl) ?_
 conv=>whnf
 refine eqS2 ?_
 conv=>whnf
 refine hS.newK hK (fun b13 w' hK hS => KeepC.mk hK ?_)
 conv=>whnf
 refine hS.stK hK 2 rfl (lbO rfl) rfl (hS.ne 2 1 rfl rfl (by decide)) (fun w' hK hS => KeepC.mk hK ?_)
 replace hS : St w No w' [blk b2 98 (encRule noRule), blk b 9 [.string (bs a), .string (bs b4), .string (bs p), .string (bs n)], blk b13 98 (encRule r)] := by
   rw [← hr]
   exact hS
 clear hK
 conv=>whnf
 (refine drawS tabOk mixed [] ((· = b2)) [0, 1, 3, 2, 4, 5, 6] (by kernel_rfl) ?_; rintro w1 rfl; replace hS := hS.drew)
 have hK := hS.ref (· = b2)
 conv=>whnf
 refine hS.laXF 2 rfl rfl (hS.ne 2 0 rfl rfl (by decide)) ?_
 conv=>whnf
 refine hS.laXF 2 rfl rfl (hS.ne 2 0 rfl rfl (by decide)) ?_
 have hnum : NumR r ∧ 0 ≤ r.proto ∧ r.proto ≤ 2 := by
   rw [← hr]
   exact ⟨⟨i1, i2⟩, by dsimp only; omega, hp2⟩
 conv=>whnf
 refine (line_ok r hnum.1 hnum.2 _ (ht.no hS.ext) (hP.no hS.ext)).mono ?_
 rintro v w6 ⟨rfl, hx⟩
 replace hS := hS.no hx
 replace hK := hK.trans hx.of_no
 refine KeepC.mk hK ?_
 clear hx
 conv=>whnf
 refine eqS2 ?_
 conv=>whnf
 refine hS.stK hK 0 rfl (lbO rfl) rfl rfl (fun w' hK hS => KeepC.mk hK ?_)
 replace hS : St w No w' [blk b2 98 (encRule r), blk b 9 [.string (bs a), .string (bs b4), .string (bs p), .string (bs n)], blk b13 98 (encRule r)] := hS
 conv=>whnf
 refine hS.laX 0 rfl rfl ?_
 repeat' ((conv => whnf); first | refine RetC.mk ?_ | refine NzC.mk (by decide) ?_ | refine rgO ?_ | refine ixO ?_ | refine brD ?_ ?_ <;> (intro) | refine brND ?_ ?_ <;> (intro) | refine brN ?_ ?_ <;> (intro) | refine brI ?_ ?_ <;> (intro))
 refine ⟨⟨r, _, rfl, ?_⟩, hS.ext⟩
 by_cases h : r.line = s
 · rw [if_pos (decide_eq_true h), hiff.1 h]
 · rw [if_neg (fun e => h (of_decide_eq_true e))]
   cases ho : ruleOfS s with
   | none => rfl
   | some q =>
     exfalso
     obtain rfl := ruleOfS_is hw hcut ho
     exact h (hiff.2 (by rw [ho, hr]))
theorem join_mem_len {w sep : List UInt8} : ∀ (ws : List (List UInt8)), w ∈ ws → w.length ≤ (Lib.join ws sep).length
 | [], h => by cases h
 | [x], h => by
   obtain rfl := List.mem_singleton.1 h
   rw [Lib.join_one]
   exact Nat.le_refl _
 | x :: y :: r, h => by
   rw [join_cc, List.length_append, List.length_append]
   rcases List.mem_cons.1 h with rfl | h
   · omega
   · have := join_mem_len (w := w) (sep := sep) (y :: r) h
     omega
theorem cutR_mem_len {c : UInt8} {l w : List UInt8} (h : w ∈ cutR c l) : w.length ≤ l.length := by
 have := join_mem_len (sep := [c]) _ h
 rwa [join_cutR] at this
theorem rulesOfL_step {ts : List (List UInt8)} {k : Nat} {t : List UInt8} (h : ts[k]? = some t) : rulesOfL (ts.drop k) k = match ruleOfS t with
   | some r => (r :: (rulesOfL (ts.drop (k + 1)) (k + 1)).1, (rulesOfL (ts.drop (k + 1)) (k + 1)).2)
   | none => ([], some k) := by
 obtain ⟨lt, e⟩ := List.getElem?_eq_some_iff.1 h
 rw [List.drop_eq_getElem_cons lt, e]
 rfl
theorem trimN_len (s : List UInt8) : (trimN s).length ≤ s.length := by
 unfold trimN
 split
 · rw [List.length_dropLast]
   omega
 · exact Nat.le_refl _
theorem nilR_holds (w : World) : (ownL 98 5 encRule (.slice none 0 0) []).holds w := own_nil _ _ _
theorem preads_ok {E : Nat → Addr} {q : Nat} (s : List UInt8) (w : World) (hl : s.length ≤ 100000) (hM : MaxL w) (hV : NumV w) (ht : Pow10 w) (hP : Protos w) (hE : Errs w E q [1, 2]) :
   CallC Tryz.prog 25 #[.string (bs s)] w fun v w' => (∃ a c e, v = .tuple #[.slice a (rulesOfS s).1.length c, e] ∧ FaultV E w w' e (rulesOfS s).2.1 (rulesOfS s).2.2 ∧ (ownL 98 5 encRule (.slice a (rulesOfS s).1.length c) (rulesOfS s).1).holds w' ∧ Fresh w w' (.slice a (rulesOfS s).1.length c)) ∧ Ext No w w' := by
 have hsz := bs_size s
 refine fn_intro tabOk Tryz.func25 (by kernel_rfl) rfl Tryz.ntmps25 (lbO rfl) ?_
 have hS := St.start w No
 unfold rulesOfS
 conv=>whnf
 refine brD (fun h1 => ?_) (fun h1 => ?_)
 · rw [if_pos (by omega)]
   repeat' ((conv => whnf); first | refine RetC.mk ?_ | refine NzC.mk (by decide) ?_ | refine rgO ?_ | refine ixO ?_ | (refine drawS tabOk mixed [] (No) [0, 1, 2] (by kernel_rfl) ?_; rintro w1 rfl; replace hS := hS.drew) | refine hS.ldr (hE.at_ 2 rfl) id ?_ | refine hS.ldrF (hE.at_ 2 rfl) id id ?_ | refine brD ?_ ?_ <;> (intro) | refine brND ?_ ?_ <;> (intro) | refine brN ?_ ?_ <;> (intro) | refine brI ?_ ?_ <;> (intro))
   exact ⟨⟨none, 0, _, rfl, .inl ⟨rfl, rfl⟩, nilR_holds _, fun g hg => by cases hg⟩, hS.ext⟩
 rw [if_neg (by omega)]
 conv=>whnf
 refine eqS2 ?_
 conv=>whnf
 refine brD (fun h2 => ?_) (fun h2 => ?_)
 · rw [if_pos h2]
   repeat' ((conv => whnf); first | refine RetC.mk ?_ | refine NzC.mk (by decide) ?_ | refine rgO ?_ | refine ixO ?_ | refine brD ?_ ?_ <;> (intro) | refine brND ?_ ?_ <;> (intro) | refine brN ?_ ?_ <;> (intro) | refine brI ?_ ?_ <;> (intro))
   exact ⟨⟨none, 0, _, rfl, .inl ⟨rfl, rfl⟩, nilR_holds _, fun g hg => by cases hg⟩, hS.ext⟩
 rw [if_neg h2]
 have htl := trimN_len s
 conv=>whnf
 refine (trim_ok s _ hl).mono ?_
 rintro v w1 ⟨rfl, hx⟩
 replace hS := hS.no hx
 clear hx
 conv=>whnf
 refine (split_ok (trimN s) 10 _ (by omega) (hM.no hS.ext)).mono ?_
 rintro v w2 ⟨⟨b, rfl, hb, hB⟩, hx⟩
 replace hS := hS.made hx (blk_local _ _ _) hB (by intro c hc; obtain rfl := List.mem_singleton.1 hc; exact ⟨hb, hB.lt⟩)
 clear hx hB hb
 have hcl := cutR_len 10 (trimN s)
 have hmem : ∀ t ∈ cutR 10 (trimN s), t.length ≤ 100000 := fun t h => by
   have := cutR_mem_len h
   omega
 generalize hts : cutR 10 (trimN s) = ts at hS hcl hmem ⊢
 obtain ⟨n, hn⟩ : ∃ n, n = ts.length := ⟨_, rfl⟩
 rw [← hn]
 have hS := hS.add (ownL_local (e := 98) (enc := encRule) (sz := 5) (v := .slice none 0 0) (xs := [])) (nilR_holds _) (by simp [ownL, own, Value.ownBlock]) (by simp [ownL, own, Value.ownBlock])
 conv=>whnf
 refine loopR tabOk (fun σ w' q => ∃ (k : Nat) (a : Option Addr) (c : Nat) (rs : List RuleS), σ = [(20, .int .i64 (k : Int)), (19, .int .i64 (n : Int)), (18, .slice (some ⟨b, 0, none⟩) n n), (4, .slice a k c)] ∧ q = n - k ∧ k ≤ n ∧ rs.length = k ∧ rulesOfL ts 0 = (rs ++ (rulesOfL (ts.drop k) k).1, (rulesOfL (ts.drop k) k).2) ∧ St w No w' [blk b 9 (ts.map fun l => .string (bs l)), ownL 98 5 encRule (.slice a k c) rs])
   (σ' := [(20, .int .i64 ((0 : Nat) : Int)), (19, .int .i64 (n : Int)), (18, .slice (some ⟨b, 0, none⟩) n n), (4, .slice none 0 0)]) (n := n) ⟨rfl, rfl, rfl, rfl, trivial⟩ ⟨0, none, 0, [], rfl, rfl, Nat.zero_le _, rfl, rfl, hS⟩ ?_
 clear hS
 rintro _ w1 q ⟨k, a, c, rs, rfl, rfl, hk, hrs, hi, hS⟩
 conv=>whnf
 refine brD (fun h3 => ?_) (fun h3 => ?_)
 · have hkn : k < ts.length := by omega
   have hat := List.getElem?_eq_getElem hkn
   generalize ts[k] = t at hat
   have hst := rulesOfL_step hat
   have htl := hmem t (List.mem_of_getElem? hat)
   have hcell : (ts.map fun l => Value.string (bs l))[0 + k * 1]? = some (.string (bs t)) := by
     rw [Nat.zero_add, Nat.mul_one, List.getElem?_map, hat]
     rfl
   conv=>whnf
   refine ixO ?_
   conv=>whnf
   refine hS.ld 0 rfl hcell ?_
   conv=>whnf
   refine (pread_ok t _ htl (hM.no hS.ext) (hV.no hS.ext) (ht.no hS.ext) (hP.no hS.ext)).mono ?_
   rintro v w3 ⟨⟨r, kk, rfl, hr⟩, hx⟩
   replace hS := hS.no hx
   clear hx
   conv=>whnf
   refine hS.new (fun b7 w' hb7 hS => ?_)
   conv=>whnf
   refine hS.st 2 rfl (lbO rfl) rfl (fun w' hS => ?_)
   replace hS : St w No w' [blk b 9 (ts.map fun l => .string (bs l)), ownL 98 5 encRule (.slice a k c) rs, blk b7 98 (encRule r)] := hS
   cases kk with
   | false =>
     rw [if_neg (by simp)] at hr
     rw [hr] at hst
     have e1 : (rulesOfL ts 0).2 = some k := by rw [hi, hst]
     rw [e1]
     conv=>whnf
     (refine drawS tabOk mixed [] (No) [0, 1, 2, 5, 3, 4, 6] (by kernel_rfl) ?_; rintro w1 rfl; replace hS := hS.drew)
     conv=>whnf
     refine hS.ldrF (hE.at_ 1 rfl) id id ?_
     conv=>whnf
     refine hS.newK (hS.ref No) (fun f w' hK hS => KeepC.mk hK ?_)
     have hf := hS.fresh 3 rfl
     repeat' ((conv => whnf); first | refine RetC.mk ?_ | refine NzC.mk (by decide) ?_ | refine rgO ?_ | refine ixO ?_ | refine brD ?_ ?_ <;> (intro) | refine brND ?_ ?_ <;> (intro) | refine brN ?_ ?_ <;> (intro) | refine brI ?_ ?_ <;> (intro))
     exact ⟨⟨none, 0, _, rfl, .inr ⟨by dsimp only; omega, by dsimp only; omega, f, rfl, hf, hS.blk 3 rfl⟩, nilR_holds _, fun g hg => by cases hg⟩, hS.ext⟩
   | true =>
     rw [if_pos rfl] at hr
     rw [hr] at hst
     dsimp only at hst
     conv=>whnf
     refine hS.laX 2 rfl rfl ?_
     conv=>whnf
     refine hS.lit (cs := encRule r) Tryz.underlying28 (sz := 5) (by kernel_rfl) (z := .agg (encRule noRule).toArray) (by kernel_rfl) rfl rfl (by rfl) (fun bl w' hbl hS => ?_)
     have hx : Slc w' 5 encRule (fun _ => True) (some ⟨bl, 0, none⟩) 1 [r] := Slc.of_blk codRule (hS.blk 3 rfl) rfl (by decide) (fun _ _ => trivial) rfl
     conv=>whnf
     refine hS.appS codRule 1 Tryz.underlying28 (bytes := 32) (by kernel_rfl) (z := .agg (encRule noRule).toArray) (by kernel_rfl) rfl rfl hx (by unfold maxLen; omega) (by omega) (fun a2 c2 w' hS => ?_)
     rw [hrs] at hS ⊢
     replace hS : St w No w' [blk b 9 (ts.map fun l => .string (bs l)), ownL 98 5 encRule (.slice a2 (k + 1) c2) (rs ++ [r]), blk b7 98 (encRule r), blk bl 98 (encRule r)] := hS
     conv=>whnf
     refine rgO ?_
     conv=>whnf
     refine LoopE.mk ⟨_, [(20, .int .i64 ((k + 1 : Nat) : Int)), (19, _), (18, _), (4, _)], ?_, ⟨rfl, rfl, rfl, rfl, trivial⟩, ⟨k + 1, a2, c2, rs ++ [r], rfl, rfl, by omega, by rw [List.length_append, hrs]; rfl, by rw [hi, hst]; simp, hS.keep 2⟩⟩
     omega
 · obtain rfl : k = n := by omega
   rw [List.drop_of_length_le (by omega)] at hi
   have e1 : rulesOfL ts 0 = (rs, none) := by
     rw [hi]
     simp [rulesOfL]
   rw [e1]
   dsimp only
   have hx := ownL_slc (G := fun _ => True) codRule (hS.get 1 rfl) fun _ _ => trivial
   conv=>whnf
   refine (rcheck_ok hx ((hE.sub rfl).ext hS.ext fun _ h => h.elim)).mono ?_
   rintro v w3 ⟨hf, hx'⟩
   have hle := hS.ext.size
   replace hS := hS.no hx'
   have hcd := fault_code rs
   generalize faultL rs = F at hf hcd ⊢
   obtain ⟨fc, fa⟩ := F
   dsimp only at hf hcd ⊢
   cases fc with
   | succ j =>
     rw [if_pos (by omega)]
     obtain ⟨t, u, rfl⟩ := hf.ne
     repeat' ((conv => whnf); first | refine RetC.mk ?_ | refine NzC.mk (by decide) ?_ | refine rgO ?_ | refine ixO ?_ | refine brD ?_ ?_ <;> (intro) | refine brND ?_ ?_ <;> (intro) | refine brN ?_ ?_ <;> (intro) | refine brI ?_ ?_ <;> (intro))
     exact ⟨⟨none, 0, _, rfl, hf.older hle, nilR_holds _, fun g hg => by cases hg⟩, hS.ext⟩
   | zero =>
     rw [if_neg (by omega)]
     obtain rfl : v = .nilIface := by
       rcases hf with ⟨_, h⟩ | ⟨_, h, _⟩
       · exact h
       · omega
     repeat' ((conv => whnf); first | refine RetC.mk ?_ | refine NzC.mk (by decide) ?_ | refine rgO ?_ | refine ixO ?_ | refine brD ?_ ?_ <;> (intro) | refine brND ?_ ?_ <;> (intro) | refine brN ?_ ?_ <;> (intro) | refine brI ?_ ?_ <;> (intro))
     rw [← hrs]
     exact ⟨⟨a, c, _, rfl, .inl ⟨rfl, rfl⟩, by rw [hrs]; exact hS.get 1 rfl, by rw [hrs]; exact hS.freshAt 1 rfl⟩, hS.ext⟩
end Go.Proofs.YtogjajjdaoihdaaGreatDoor

namespace Go.Proofs.YtogjajjdaoihdaaGreatDoor
set_option maxRecDepth 20000
open Go Ev
section
variable {P : Program} {k : Value → Prop} {t : TypeId}
theorem Ev.ltC {kd : IntKind} {a b : Int} (hk : k (.bool (decide (a < b)))) : PureC P (Go.binOp .lss t (.int kd a) (.int kd b)) k :=
 PureC.of (fun w => by simp [Go.binOp, Op.intCmp]) hk
theorem Ev.gtC {kd : IntKind} {a b : Int} (hk : k (.bool (decide (a > b)))) : PureC P (Go.binOp .gtr t (.int kd a) (.int kd b)) k :=
 PureC.of (fun w => by simp [Go.binOp, Op.intCmp]) hk
theorem Ev.subC8 {a b : Nat} (h : b ≤ a) (ha : a < 256) (hk : k (.int .u8 ((a - b : Nat) : Int))) : PureC P (Go.binOp .sub t (.int .u8 (a : Int)) (.int .u8 (b : Int))) k :=
 PureC.of (fun w => by
   rw [show Go.binOp .sub t (.int .u8 (a : Int)) (.int .u8 (b : Int)) = Op.intArith .sub .u8 (a : Int) (b : Int) by simp [Go.binOp]]
   show (pure (Value.int .u8 (IntKind.u8.wrap ((a : Int) - (b : Int)))) : Sem Value).run P w = _
   rw [IntKind.wrap_u8', show ((a : Int) - (b : Int)) = ((a - b : Nat) : Int) by omega, show (((a - b : Nat) : Int)) % 256 = ((a - b : Nat) : Int) by omega]
   rfl) hk
end
theorem valD_lt : ∀ (l : List UInt8), (∀ b ∈ l, isDig b = true) → valD l < 10 ^ l.length := by
 have key : ∀ (l : List UInt8) (acc : Nat), (∀ b ∈ l, isDig b = true) → l.foldl (fun n b => 10 * n + (b.toNat - 48)) acc < (acc + 1) * 10 ^ l.length := by
   intro l
   induction l with
   | nil => intro acc _; simp
   | cons b l ih =>
     intro acc hb
     have hd := isDig_iff.1 (hb b List.mem_cons_self)
     have := ih (10 * acc + (b.toNat - 48)) fun c hc => hb c (List.mem_cons_of_mem _ hc)
     rw [List.foldl_cons, List.length_cons, Nat.pow_succ]
     refine Nat.lt_of_lt_of_le this ?_
     rw [Nat.mul_comm (10 ^ l.length) 10, ← Nat.mul_assoc]
     exact Nat.mul_le_mul_right _ (by omega)
 intro l h
 have := key l 0 h
 rwa [Nat.zero_add, Nat.one_mul] at this
theorem valD_take {s : List UInt8} {k : Nat} {x : UInt8} (h : s[k]? = some x) : valD (s.take (k + 1)) = 10 * valD (s.take k) + (x.toNat - 48) := by
 rw [List.take_add_one, h]
 exact valD_app _ _
theorem take_dig {s : List UInt8} {k : Nat} {x : UInt8} (h : s[k]? = some x) (hx : isDig x = true) (hd : ∀ b ∈ s.take k, isDig b = true) : ∀ b ∈ s.take (k + 1), isDig b = true := by
 rw [List.take_add_one, h]
 intro b hb
 rcases List.mem_append.1 hb with hb | hb
 · exact hd b hb
 · obtain rfl : b = x := by simpa using hb
   exact hx
theorem all_bad {s : List UInt8} {k : Nat} {x : UInt8} (h : s[k]? = some x) (hx : ¬ isDig x = true) : ¬ s.all isDig = true := fun ha => hx (List.all_eq_true.1 ha x (List.mem_of_getElem? h))
theorem numberOf_ok (s : List UInt8) (most : Nat) (hl : s.length ≤ 100000) (hm : most ≤ 18) (w : World) :
   CallC Tryz.prog 82 #[.string (bs s), .int .i64 (most : Int)] w fun v w' => v = .int .i64 (numS s most) ∧ Ext No w w' := by
 have hsz := bs_size s
 unfold numS
 refine fn_intro tabOk Tryz.func82 (by kernel_rfl) rfl Tryz.ntmps82 (lbO rfl) ?_
 have hS := St.start w No
 conv=>whnf
 refine brD (fun h1 => ?_) (fun h1 => ?_)
 · rw [if_pos (.inl (by omega))]
   repeat' ((conv => whnf); first | refine RetC.mk ?_ | refine NzC.mk (by decide) ?_ | refine rgO ?_ | refine ixO ?_ | refine brD ?_ ?_ <;> (intro) | refine brND ?_ ?_ <;> (intro) | refine brN ?_ ?_ <;> (intro) | refine brI ?_ ?_ <;> (intro))
   exact ⟨rfl, hS.ext⟩
 conv=>whnf
 refine brD (fun h2 => ?_) (fun h2 => ?_)
 · rw [if_pos (.inr (.inl (by omega)))]
   repeat' ((conv => whnf); first | refine RetC.mk ?_ | refine NzC.mk (by decide) ?_ | refine rgO ?_ | refine ixO ?_ | refine brD ?_ ?_ <;> (intro) | refine brND ?_ ?_ <;> (intro) | refine brN ?_ ?_ <;> (intro) | refine brI ?_ ?_ <;> (intro))
   exact ⟨rfl, hS.ext⟩
 have main : ∀ {Q : Prop}, (¬ (s.length < 1 ∨ s.length > most ∨ (s.length > 1 ∧ s[0]? = some 48)) → Q) → ¬ (s.length > 1 ∧ s[0]? = some 48) → Q := fun h h3 => h (by
   rintro (h | h | h)
   · omega
   · omega
   · exact h3 h)
 conv=>whnf
 refine brD (fun h3 => ?_) (fun h3 => ?_)
 · obtain ⟨x, hx⟩ : ∃ x, s[0]? = some x := ⟨_, List.getElem?_eq_getElem (by omega)⟩
   conv=>whnf
   refine idxS (j := 0) Tryz.underlying9 rfl hx ?_
   conv=>whnf
   refine eqC ?_
   have hxc : ((x.toNat : Int) == 48) = decide (x = 48) := by
     rw [Bool.eq_iff_iff, beq_iff_eq, decide_eq_true_iff]
     exact ⟨fun h => UInt8.toNat_inj.1 (by show x.toNat = 48; omega), fun h => by rw [h]; rfl⟩
   rw [hxc]
   conv=>whnf
   refine brD (fun h4 => ?_) (fun h4 => ?_)
   · rw [if_pos (.inr (.inr ⟨by omega, by rw [hx, h4]⟩))]
     repeat' ((conv => whnf); first | refine RetC.mk ?_ | refine NzC.mk (by decide) ?_ | refine rgO ?_ | refine ixO ?_ | refine brD ?_ ?_ <;> (intro) | refine brND ?_ ?_ <;> (intro) | refine brN ?_ ?_ <;> (intro) | refine brI ?_ ?_ <;> (intro))
     exact ⟨rfl, hS.ext⟩
   · refine main (fun h => ?_) (fun h => h4 (by have := h.2; rw [hx] at this; exact Option.some.inj this))
     rw [if_neg h]
     conv=>whnf
     refine loopR tabOk (fun σ w' q => ∃ k : Nat, σ = [(6, .int .i64 (k : Int)), (5, .int .i64 (valD (s.take k) : Nat)), (0, .string (bs s))] ∧ q = s.length - k ∧ k ≤ s.length ∧ (∀ b ∈ s.take k, isDig b = true) ∧ St w No w' [])
       (σ' := [(6, .int .i64 ((0 : Nat) : Int)), (5, .int .i64 ((0 : Nat) : Int)), (0, .string (bs s))]) (n := s.length) ⟨rfl, rfl, rfl, trivial⟩ ⟨0, rfl, rfl, Nat.zero_le _, by simp, hS⟩ ?_
     clear hS
     rintro _ w1 q ⟨k, rfl, rfl, hk, hd, hS⟩
     conv=>whnf
     refine brD (fun h5 => ?_) (fun h5 => ?_)
     · obtain ⟨x, hx⟩ : ∃ x, s[k]? = some x := ⟨_, List.getElem?_eq_getElem (by omega)⟩
       have hst := valD_take hx
       have hlt : valD (s.take k) < 10 ^ 17 := Nat.lt_of_lt_of_le (valD_lt _ hd) (Nat.pow_le_pow_right (by decide) (by rw [List.length_take]; omega))
       have hxl := x.toNat_lt
       conv=>whnf
       refine idxS (j := k) Tryz.underlying9 rfl hx ?_
       conv=>whnf
       refine ltC ?_
       conv=>whnf
       refine brD (fun h6 => ?_) (fun h6 => ?_)
       · rw [if_neg (all_bad hx (by rw [isDig_iff]; omega))]
         repeat' ((conv => whnf); first | refine RetC.mk ?_ | refine NzC.mk (by decide) ?_ | refine rgO ?_ | refine ixO ?_ | refine brD ?_ ?_ <;> (intro) | refine brND ?_ ?_ <;> (intro) | refine brN ?_ ?_ <;> (intro) | refine brI ?_ ?_ <;> (intro))
         exact ⟨rfl, hS.ext⟩
       conv=>whnf
       refine idxS (j := k) Tryz.underlying9 rfl hx ?_
       conv=>whnf
       refine gtC ?_
       conv=>whnf
       refine brD (fun h7 => ?_) (fun h7 => ?_)
       · rw [if_neg (all_bad hx (by rw [isDig_iff]; omega))]
         repeat' ((conv => whnf); first | refine RetC.mk ?_ | refine NzC.mk (by decide) ?_ | refine rgO ?_ | refine ixO ?_ | refine brD ?_ ?_ <;> (intro) | refine brND ?_ ?_ <;> (intro) | refine brN ?_ ?_ <;> (intro) | refine brI ?_ ?_ <;> (intro))
         exact ⟨rfl, hS.ext⟩
       conv=>whnf
       refine rgO ?_
       conv=>whnf
       refine idxS (j := k) Tryz.underlying9 rfl hx ?_
       conv=>whnf
       refine subC8 (b := 48) (by omega) (by omega) ?_
       conv=>whnf
       refine convI (kd := .i64) (m := ((x.toNat - 48 : Nat) : Int)) (by kernel_rfl) Tryz.underlying3 (by rw [IntKind.wrap_i64]; omega) ?_
       conv=>whnf
       refine rgO ?_
       conv=>whnf
       refine rgO ?_
       conv=>whnf
       refine LoopE.mk ⟨_, [(6, .int .i64 ((k + 1 : Nat) : Int)), (5, .int .i64 (valD (s.take (k + 1)) : Nat)), (0, _)], ?_, ⟨rfl, by rw [hst, Int.natCast_add, Int.natCast_mul]; rfl, rfl, trivial⟩, ⟨k + 1, rfl, rfl, by omega, take_dig hx (isDig_iff.2 ⟨by omega, by omega⟩) hd, hS⟩⟩
       omega
     · obtain rfl : k = s.length := by omega
       rw [List.take_length] at hd ⊢
       rw [if_pos (List.all_eq_true.2 hd)]
       repeat' ((conv => whnf); first | refine RetC.mk ?_ | refine NzC.mk (by decide) ?_ | refine rgO ?_ | refine ixO ?_ | refine brD ?_ ?_ <;> (intro) | refine brND ?_ ?_ <;> (intro) | refine brN ?_ ?_ <;> (intro) | refine brI ?_ ?_ <;> (intro))
       exact ⟨rfl, hS.ext⟩
 · refine main (fun h => ?_) (fun h => h3 (by have := h.1; omega))
   rw [if_neg h]
   conv=>whnf
   refine loopR tabOk (fun σ w' q => ∃ k : Nat, σ = [(6, .int .i64 (k : Int)), (5, .int .i64 (valD (s.take k) : Nat)), (0, .string (bs s))] ∧ q = s.length - k ∧ k ≤ s.length ∧ (∀ b ∈ s.take k, isDig b = true) ∧ St w No w' [])
     (σ' := [(6, .int .i64 ((0 : Nat) : Int)), (5, .int .i64 ((0 : Nat) : Int)), (0, .string (bs s))]) (n := s.length) ⟨rfl, rfl, rfl, trivial⟩ ⟨0, rfl, rfl, Nat.zero_le _, by simp, hS⟩ ?_
   clear hS
   rintro _ w1 q ⟨k, rfl, rfl, hk, hd, hS⟩
   conv=>whnf
   refine brD (fun h5 => ?_) (fun h5 => ?_)
   · obtain ⟨x, hx⟩ : ∃ x, s[k]? = some x := ⟨_, List.getElem?_eq_getElem (by omega)⟩
     have hst := valD_take hx
     have hlt : valD (s.take k) < 10 ^ 17 := Nat.lt_of_lt_of_le (valD_lt _ hd) (Nat.pow_le_pow_right (by decide) (by rw [List.length_take]; omega))
     have hxl := x.toNat_lt
     conv=>whnf
     refine idxS (j := k) Tryz.underlying9 rfl hx ?_
     conv=>whnf
     refine ltC ?_
     conv=>whnf
     refine brD (fun h6 => ?_) (fun h6 => ?_)
     · rw [if_neg (all_bad hx (by rw [isDig_iff]; omega))]
       repeat' ((conv => whnf); first | refine RetC.mk ?_ | refine NzC.mk (by decide) ?_ | refine rgO ?_ | refine ixO ?_ | refine brD ?_ ?_ <;> (intro) | refine brND ?_ ?_ <;> (intro) | refine brN ?_ ?_ <;> (intro) | refine brI ?_ ?_ <;> (intro))
       exact ⟨rfl, hS.ext⟩
     conv=>whnf
     refine idxS (j := k) Tryz.underlying9 rfl hx ?_
     conv=>whnf
     refine gtC ?_
     conv=>whnf
     refine brD (fun h7 => ?_) (fun h7 => ?_)
     · rw [if_neg (all_bad hx (by rw [isDig_iff]; omega))]
       repeat' ((conv => whnf); first | refine RetC.mk ?_ | refine NzC.mk (by decide) ?_ | refine rgO ?_ | refine ixO ?_ | refine brD ?_ ?_ <;> (intro) | refine brND ?_ ?_ <;> (intro) | refine brN ?_ ?_ <;> (intro) | refine brI ?_ ?_ <;> (intro))
       exact ⟨rfl, hS.ext⟩
     conv=>whnf
     refine rgO ?_
     conv=>whnf
     refine idxS (j := k) Tryz.underlying9 rfl hx ?_
     conv=>whnf
     refine subC8 (b := 48) (by omega) (by omega) ?_
     conv=>whnf
     refine convI (kd := .i64) (m := ((x.toNat - 48 : Nat) : Int)) (by kernel_rfl) Tryz.underlying3 (by rw [IntKind.wrap_i64]; omega) ?_
     conv=>whnf
     refine rgO ?_
     conv=>whnf
     refine rgO ?_
     conv=>whnf
     refine LoopE.mk ⟨_, [(6, .int .i64 ((k + 1 : Nat) : Int)), (5, .int .i64 (valD (s.take (k + 1)) : Nat)), (0, _)], ?_, ⟨rfl, by rw [hst, Int.natCast_add, Int.natCast_mul]; rfl, rfl, trivial⟩, ⟨k + 1, rfl, rfl, by omega, take_dig hx (isDig_iff.2 ⟨by omega, by omega⟩) hd, hS⟩⟩
     omega
   · obtain rfl : k = s.length := by omega
     rw [List.take_length] at hd ⊢
     rw [if_pos (List.all_eq_true.2 hd)]
     repeat' ((conv => whnf); first | refine RetC.mk ?_ | refine NzC.mk (by decide) ?_ | refine rgO ?_ | refine ixO ?_ | refine brD ?_ ?_ <;> (intro) | refine brND ?_ ?_ <;> (intro) | refine brN ?_ ?_ <;> (intro) | refine brI ?_ ?_ <;> (intro))
     exact ⟨rfl, hS.ext⟩
end Go.Proofs.YtogjajjdaoihdaaGreatDoor

namespace Go.Proofs.YtogjajjdaoihdaaGreatDoor
set_option maxRecDepth 20000
open Go Ev
theorem ownT_some {w : World} {a : Option Addr} {n c : Nat} {xs : List (List UInt8)} (h : (ownL 9 1 encT (.slice a n c) xs).holds w) (hn : xs ≠ []) : ∃ b, a = some ⟨b, 0, none⟩ := by
 obtain ⟨h1, ⟨h2, h3⟩ | ⟨g, cap, cur, h2, _⟩⟩ := h
 · exact absurd (List.eq_nil_of_length_eq_zero h3) hn
 · cases h2
   exact ⟨g, rfl⟩
theorem ownT_cell {w : World} {b n c j : Nat} {xs : List (List UInt8)} {x : List UInt8} (h : (ownL 9 1 encT (.slice (some ⟨b, 0, none⟩) n c) xs).holds w) (hj : xs[j]? = some x) : w.cell? ⟨b, 0 + j * 1, none⟩ = some (.string (bs x)) := by
 have hn := (ownL_slc (G := fun _ => True) codT h fun _ _ => trivial).len
 have hlt := (List.getElem?_eq_some_iff.1 hj).1
 obtain ⟨b', o', x', h1, _, h2, _, h3⟩ := (ownL_slc (G := fun _ => True) codT h fun _ _ => trivial).at (k := j) (by omega)
 cases h2
 rw [hj] at h1
 cases h1
 exact h3 0 _ rfl
theorem ownT_ne {w0 w : World} {H : List Ent} (h : St w0 No w H) (i j : Nat) {b c n d : Nat} {t : TypeId} {cs : List Value} {xs : List (List UInt8)} (hi : H[i]? = some (blk c t cs)) (hj : H[j]? = some (ownL 9 1 encT (.slice (some ⟨b, 0, none⟩) n d) xs)) (hne : i ≠ j) : c ≠ b := fun e =>
 h.apartAt i j hi hj hne c (List.mem_singleton.2 rfl) (by simp [ownL, own, Value.ownBlock, e])
theorem ruleOfS_bad {s a b p n : List UInt8} (hw : cutR 32 s = [a, b, p, n]) (h : ¬ ((a = sAllow ∨ a = sDeny) ∧ (b = sOut ∨ b = sIn) ∧ 0 ≤ protoK p)) : ruleOfS s = none := by
 unfold ruleOfS
 rw [hw]
 dsimp only
 rw [if_neg h]
theorem ruleOfS_bad2 {s a b p n : List UInt8} (hw : cutR 32 s = [a, b, p, n]) (h : (cutR 45 n).length ≠ 2) : ruleOfS s = none := by
 unfold ruleOfS
 rw [hw]
 dsimp only
 split
 · split
   · rename_i e
     rw [e] at h
     exact absurd rfl h
   · rfl
 · rfl
theorem ruleOfS_good {s a b p n x y : List UInt8} {P : Int} (hw : cutR 32 s = [a, b, p, n]) (ha : a = sAllow ∨ a = sDeny) (hb : b = sOut ∨ b = sIn) (hp : protoK p = P) (hp0 : 0 ≤ P) (hn : cutR 45 n = [x, y]) :
   ruleOfS s = if 0 ≤ numS x 5 ∧ 0 ≤ numS y 5 then some ⟨decide (a = sAllow), decide (b = sOut), P, numS x 5, numS y 5⟩ else none := by
 unfold ruleOfS
 rw [hw]
 dsimp only
 rw [if_pos ⟨ha, hb, by omega⟩, hn, hp]
theorem words2 {s : List UInt8} (h : (cutR 45 s).length = 2) : ∃ x y, cutR 45 s = [x, y] := by
 generalize cutR 45 s = l at h
 match l, h with
 | [a, b], _ => exact ⟨a, b, rfl⟩
theorem rruleOf_ok (s : List UInt8) (hl : s.length ≤ 100000) (w : World) :
   CallC Tryz.prog 38 #[.string (bs s)] w fun v w' => (∃ r k, v = .tuple #[.agg (encRule r).toArray, .bool k] ∧ (ruleOfS s = if k = true then some r else none)) ∧ Ext No w w' := by
 refine fn_intro tabOk Tryz.func38 (by kernel_rfl) rfl Tryz.ntmps38 (lbO rfl) ?_
 have hS := St.start w No
 conv=>whnf
 refine hS.new (fun b2 w' hb2 hS => ?_)
 replace hS : St w No w' [blk b2 98 (encRule noRule)] := hS
 conv=>whnf
 refine (rcutT_ok s 32 hl _).mono ?_
 rintro v w1 ⟨⟨a0, d, rfl, ho, hf⟩, hx⟩
 replace hS := hS.madeL hx ho hf
 clear hx ho hf
 conv=>whnf
 refine brND (fun h4 => ?_) (fun h4 => ?_)
 · have h4 := ruleOfS_words (s := s) (by omega)
   conv=>whnf
   refine hS.st 0 rfl (lbO rfl) rfl (fun w' hS => ?_)
   conv=>whnf
   refine hS.laX 0 rfl rfl ?_
   repeat' ((conv => whnf); first | refine RetC.mk ?_ | refine NzC.mk (by decide) ?_ | refine rgO ?_ | refine ixO ?_ | refine brD ?_ ?_ <;> (intro) | refine brND ?_ ?_ <;> (intro) | refine brN ?_ ?_ <;> (intro) | refine brI ?_ ?_ <;> (intro))
   exact ⟨⟨noRule, false, rfl, h4⟩, hS.ext⟩
 obtain ⟨a, b4, p, n, hw⟩ := words4 (s := s) (by omega)
 have hnl := cutR_mem_len (c := 32) (l := s) (w := n) (by rw [hw]; simp)
 rw [hw] at hS ⊢
 have hl4 : ([a, b4, p, n] : List (List UInt8)).length = 4 := rfl
 obtain ⟨b, rfl⟩ := ownT_some (hS.get 1 rfl) (by simp)
 conv=>whnf
 (refine drawS tabOk mixed [] ((· ≠ b)) [0, 1, 2, 3, 4, 5, 6, 7, 8, 9, 10] (by kernel_rfl) ?_; rintro w1 rfl; replace hS := hS.drew)
 have hK := hS.ref (· ≠ b)
 conv=>whnf
 refine ixO ?_
 conv=>whnf
 refine Ev.ldFc (ownT_cell (j := 0) (hS.get 1 rfl) rfl) (fun h => h rfl) ?_
 conv=>whnf
 refine eqS2 ?_
 conv=>whnf
 refine ixO ?_
 conv=>whnf
 refine Ev.ldFc (ownT_cell (j := 1) (hS.get 1 rfl) rfl) (fun h => h rfl) ?_
 conv=>whnf
 refine eqS2 ?_
 conv=>whnf
 refine hS.newK hK (fun b5 w' hK hS => KeepC.mk hK ?_)
 conv=>whnf
 refine hS.stK hK 2 rfl (lbO rfl) rfl (ownT_ne hS 2 1 rfl rfl (by decide)) (fun w' hK hS => KeepC.mk hK ?_)
 clear hK
 conv=>whnf
 refine ixO ?_
 conv=>whnf
 refine Ev.ldc (ownT_cell (j := 0) (hS.get 1 rfl) rfl) ?_
 conv=>whnf
 refine neS2 ?_
 conv=>whnf
 refine brND (fun h1 => ?_) (fun h1 => ?_)
 · (conv => whnf)
   refine ixO ?_
   conv=>whnf
   refine Ev.ldc (ownT_cell (j := 0) (hS.get 1 rfl) rfl) ?_
   conv=>whnf
   refine neS2 ?_
   conv=>whnf
   refine brND (fun h2 => ?_) (fun h2 => ?_)
   · have hbad : ruleOfS s = none := ruleOfS_bad hw (fun h => h.1.elim h1 h2)
     conv=>whnf
     refine hS.st 0 rfl (lbO rfl) rfl (fun w' hS => ?_)
     conv=>whnf
     refine hS.laX 0 rfl rfl ?_
     repeat' ((conv => whnf); first | refine RetC.mk ?_ | refine NzC.mk (by decide) ?_ | refine rgO ?_ | refine ixO ?_ | refine brD ?_ ?_ <;> (intro) | refine brND ?_ ?_ <;> (intro) | refine brN ?_ ?_ <;> (intro) | refine brI ?_ ?_ <;> (intro))
     exact ⟨⟨noRule, false, rfl, hbad⟩, hS.ext⟩
   conv=>whnf
   refine ixO ?_
   conv=>whnf
   refine Ev.ldc (ownT_cell (j := 1) (hS.get 1 rfl) rfl) ?_
   conv=>whnf
   refine neS2 ?_
   conv=>whnf
   refine brND (fun h5 => ?_) (fun h5 => ?_)
   · (conv => whnf)
     refine ixO ?_
     conv=>whnf
     refine Ev.ldc (ownT_cell (j := 1) (hS.get 1 rfl) rfl) ?_
     conv=>whnf
     refine neS2 ?_
     conv=>whnf
     refine brND (fun h6 => ?_) (fun h6 => ?_)
     · have hbad : ruleOfS s = none := ruleOfS_bad hw (fun h => h.2.1.elim h5 h6)
       conv=>whnf
       refine hS.st 0 rfl (lbO rfl) rfl (fun w' hS => ?_)
       conv=>whnf
       refine hS.laX 0 rfl rfl ?_
       repeat' ((conv => whnf); first | refine RetC.mk ?_ | refine NzC.mk (by decide) ?_ | refine rgO ?_ | refine ixO ?_ | refine brD ?_ ?_ <;> (intro) | refine brND ?_ ?_ <;> (intro) | refine brN ?_ ?_ <;> (intro) | refine brI ?_ ?_ <;> (intro))
       exact ⟨⟨noRule, false, rfl, hbad⟩, hS.ext⟩
     have ha : a = sAllow ∨ a = sDeny := .inr h2
     have hb4 : b4 = sOut ∨ b4 = sIn := .inr h6
     conv=>whnf
     refine ixO ?_
     conv=>whnf
     refine Ev.ldc (ownT_cell (j := 2) (hS.get 1 rfl) rfl) ?_
     conv=>whnf
     refine eqS2 ?_
     conv=>whnf
     refine brD (fun h7 => ?_) (fun h7 => ?_)
     · (conv => whnf)
       refine hS.st 2 rfl (lbO rfl) rfl (fun w' hS => ?_)
       have hp : protoK p = 0 := if_pos h7
       replace hS : St w No _ [blk b2 98 (encRule noRule), ownL 9 1 encT (.slice (some ⟨b, 0, none⟩) 4 d) [a, b4, p, n], blk b5 98 (encRule ⟨decide (a = sAllow), decide (b4 = sOut), 0, 0, 0⟩)] := hS
       conv=>whnf
       refine ixO ?_
       conv=>whnf
       refine Ev.ldc (ownT_cell (j := 3) (hS.get 1 rfl) rfl) ?_
       conv=>whnf
       refine (rcutT_ok n 45 (by omega) _).mono ?_
       rintro v w3 ⟨⟨a2, d2, rfl, ho, hf⟩, hx⟩
       replace hS := hS.madeL hx ho hf
       clear hx ho hf
       conv=>whnf
       refine brND (fun h10 => ?_) (fun h10 => ?_)
       · have hbad := ruleOfS_bad2 hw (by omega)
         conv=>whnf
         refine hS.st 0 rfl (lbO rfl) rfl (fun w' hS => ?_)
         conv=>whnf
         refine hS.laX 0 rfl rfl ?_
         repeat' ((conv => whnf); first | refine RetC.mk ?_ | refine NzC.mk (by decide) ?_ | refine rgO ?_ | refine ixO ?_ | refine brD ?_ ?_ <;> (intro) | refine brND ?_ ?_ <;> (intro) | refine brN ?_ ?_ <;> (intro) | refine brI ?_ ?_ <;> (intro))
         exact ⟨⟨noRule, false, rfl, hbad⟩, hS.ext⟩
       obtain ⟨x, y, hxy⟩ := words2 (s := n) (by omega)
       have hcl2 := cutR_mem_len (c := 45) (l := n) (w := x) (by rw [hxy]; exact List.mem_cons_self)
       have hcl3 := cutR_mem_len (c := 45) (l := n) (w := y) (by rw [hxy]; exact List.mem_cons_of_mem _ List.mem_cons_self)
       have hg := ruleOfS_good hw ha hb4 hp (by omega) hxy
       rw [hxy] at hS ⊢
       obtain ⟨bw, rfl⟩ := ownT_some (hS.get 3 rfl) (by simp)
       have hl2 : ([x, y] : List (List UInt8)).length = 2 := rfl
       conv=>whnf
       refine ixO ?_
       conv=>whnf
       refine Ev.ldc (ownT_cell (j := 0) (hS.get 3 rfl) rfl) ?_
       conv=>whnf
       refine (numberOf_ok x 5 (by omega) (by omega) _).mono ?_
       rintro v w4 ⟨rfl, hx⟩
       replace hS := hS.no hx
       clear hx
       conv=>whnf
       refine hS.st 2 rfl (lbO rfl) rfl (fun w' hS => ?_)
       conv=>whnf
       refine ixO ?_
       conv=>whnf
       refine Ev.ldc (ownT_cell (j := 1) (hS.get 3 rfl) rfl) ?_
       conv=>whnf
       refine (numberOf_ok y 5 (by omega) (by omega) _).mono ?_
       rintro v w5 ⟨rfl, hx⟩
       replace hS := hS.no hx
       clear hx
       conv=>whnf
       refine hS.st 2 rfl (lbO rfl) rfl (fun w' hS => ?_)
       generalize hr : (⟨decide (a = sAllow), decide (b4 = sOut), 0, numS x 5, numS y 5⟩ : RuleS) = r at hg
       have hr1 : r.low = numS x 5 := by rw [← hr]
       have hr2 : r.top = numS y 5 := by rw [← hr]
       replace hS : St w No w' [blk b2 98 (encRule noRule), ownL 9 1 encT (.slice (some ⟨b, 0, none⟩) 4 d) [a, b4, p, n], blk b5 98 (encRule r), ownL 9 1 encT (.slice (some ⟨bw, 0, none⟩) 2 d2) [x, y]] := by
         rw [← hr]
         exact hS
       rw [← hr1, ← hr2] at hg
       clear hr1 hr2
       have hne := hS.ne 2 0 rfl rfl (by decide)
       conv=>whnf
       (refine drawS tabOk mixed [] ((· = b2)) [0, 1, 2, 3, 4, 5, 6, 7, 8, 9, 10] (by kernel_rfl) ?_; rintro w1 rfl; replace hS := hS.drew)
       have hK := hS.ref (· = b2)
       conv=>whnf
       refine hS.laXF 2 rfl rfl hne ?_
       conv=>whnf
       refine hS.ldF 2 rfl rfl hne ?_
       conv=>whnf
       refine brD (fun h11 => ?_) (fun h11 => ?_)
       · (conv => whnf)
         refine hS.ldF 2 rfl rfl hne ?_
         conv=>whnf
         refine hS.stK hK 0 rfl (lbO rfl) rfl rfl (fun w' hK hS => KeepC.mk hK ?_)
         replace hS : St w No w' [blk b2 98 (encRule r), ownL 9 1 encT (.slice (some ⟨b, 0, none⟩) 4 d) [a, b4, p, n], blk b5 98 (encRule r), ownL 9 1 encT (.slice (some ⟨bw, 0, none⟩) 2 d2) [x, y]] := hS
         conv=>whnf
         refine hS.laX 0 rfl rfl ?_
         repeat' ((conv => whnf); first | refine RetC.mk ?_ | refine NzC.mk (by decide) ?_ | refine rgO ?_ | refine ixO ?_ | refine brD ?_ ?_ <;> (intro) | refine brND ?_ ?_ <;> (intro) | refine brN ?_ ?_ <;> (intro) | refine brI ?_ ?_ <;> (intro))
         refine ⟨⟨r, _, rfl, ?_⟩, hS.ext⟩
         rw [hg]
         by_cases h12 : 0 ≤ r.top
         · rw [if_pos ⟨by omega, h12⟩, if_pos (decide_eq_true (by omega))]
         · rw [if_neg (fun h => h12 h.2), if_neg (fun h => h12 (of_decide_eq_true h))]
       · (conv => whnf)
         refine hS.stK hK 0 rfl (lbO rfl) rfl rfl (fun w' hK hS => KeepC.mk hK ?_)
         replace hS : St w No w' [blk b2 98 (encRule r), ownL 9 1 encT (.slice (some ⟨b, 0, none⟩) 4 d) [a, b4, p, n], blk b5 98 (encRule r), ownL 9 1 encT (.slice (some ⟨bw, 0, none⟩) 2 d2) [x, y]] := hS
         conv=>whnf
         refine hS.laX 0 rfl rfl ?_
         repeat' ((conv => whnf); first | refine RetC.mk ?_ | refine NzC.mk (by decide) ?_ | refine rgO ?_ | refine ixO ?_ | refine brD ?_ ?_ <;> (intro) | refine brND ?_ ?_ <;> (intro) | refine brN ?_ ?_ <;> (intro) | refine brI ?_ ?_ <;> (intro))
         refine ⟨⟨r, _, rfl, ?_⟩, hS.ext⟩
         rw [hg, if_neg (fun h => by omega), if_neg (by simp)]
     conv=>whnf
     refine eqS2 ?_
     conv=>whnf
     refine brD (fun h8 => ?_) (fun h8 => ?_)
     · (conv => whnf)
       refine hS.st 2 rfl (lbO rfl) rfl (fun w' hS => ?_)
       have hp : protoK p = 1 := (if_neg h7).trans (if_pos h8)
       replace hS : St w No _ [blk b2 98 (encRule noRule), ownL 9 1 encT (.slice (some ⟨b, 0, none⟩) 4 d) [a, b4, p, n], blk b5 98 (encRule ⟨decide (a = sAllow), decide (b4 = sOut), 1, 0, 0⟩)] := hS
       conv=>whnf
       refine ixO ?_
       conv=>whnf
       refine Ev.ldc (ownT_cell (j := 3) (hS.get 1 rfl) rfl) ?_
       conv=>whnf
       refine (rcutT_ok n 45 (by omega) _).mono ?_
       rintro v w3 ⟨⟨a2, d2, rfl, ho, hf⟩, hx⟩
       replace hS := hS.madeL hx ho hf
       clear hx ho hf
       conv=>whnf
       refine brND (fun h10 => ?_) (fun h10 => ?_)
       · have hbad := ruleOfS_bad2 hw (by omega)
         conv=>whnf
         refine hS.st 0 rfl (lbO rfl) rfl (fun w' hS => ?_)
         conv=>whnf
         refine hS.laX 0 rfl rfl ?_
         repeat' ((conv => whnf); first | refine RetC.mk ?_ | refine NzC.mk (by decide) ?_ | refine rgO ?_ | refine ixO ?_ | refine brD ?_ ?_ <;> (intro) | refine brND ?_ ?_ <;> (intro) | refine brN ?_ ?_ <;> (intro) | refine brI ?_ ?_ <;> (intro))
         exact ⟨⟨noRule, false, rfl, hbad⟩, hS.ext⟩
       obtain ⟨x, y, hxy⟩ := words2 (s := n) (by omega)
       have hcl2 := cutR_mem_len (c := 45) (l := n) (w := x) (by rw [hxy]; exact List.mem_cons_self)
       have hcl3 := cutR_mem_len (c := 45) (l := n) (w := y) (by rw [hxy]; exact List.mem_cons_of_mem _ List.mem_cons_self)
       have hg := ruleOfS_good hw ha hb4 hp (by omega) hxy
       rw [hxy] at hS ⊢
       obtain ⟨bw, rfl⟩ := ownT_some (hS.get 3 rfl) (by simp)
       have hl2 : ([x, y] : List (List UInt8)).length = 2 := rfl
       conv=>whnf
       refine ixO ?_
       conv=>whnf
       refine Ev.ldc (ownT_cell (j := 0) (hS.get 3 rfl) rfl) ?_
       conv=>whnf
       refine (numberOf_ok x 5 (by omega) (by omega) _).mono ?_
       rintro v w4 ⟨rfl, hx⟩
       replace hS := hS.no hx
       clear hx
       conv=>whnf
       refine hS.st 2 rfl (lbO rfl) rfl (fun w' hS => ?_)
       conv=>whnf
       refine ixO ?_
       conv=>whnf
       refine Ev.ldc (ownT_cell (j := 1) (hS.get 3 rfl) rfl) ?_
       conv=>whnf
       refine (numberOf_ok y 5 (by omega) (by omega) _).mono ?_
       rintro v w5 ⟨rfl, hx⟩
       replace hS := hS.no hx
       clear hx
       conv=>whnf
       refine hS.st 2 rfl (lbO rfl) rfl (fun w' hS => ?_)
       generalize hr : (⟨decide (a = sAllow), decide (b4 = sOut), 1, numS x 5, numS y 5⟩ : RuleS) = r at hg
       have hr1 : r.low = numS x 5 := by rw [← hr]
       have hr2 : r.top = numS y 5 := by rw [← hr]
       replace hS : St w No w' [blk b2 98 (encRule noRule), ownL 9 1 encT (.slice (some ⟨b, 0, none⟩) 4 d) [a, b4, p, n], blk b5 98 (encRule r), ownL 9 1 encT (.slice (some ⟨bw, 0, none⟩) 2 d2) [x, y]] := by
         rw [← hr]
         exact hS
       rw [← hr1, ← hr2] at hg
       clear hr1 hr2
       have hne := hS.ne 2 0 rfl rfl (by decide)
       conv=>whnf
       (refine drawS tabOk mixed [] ((· = b2)) [0, 1, 2, 3, 4, 5, 6, 7, 8, 9, 10] (by kernel_rfl) ?_; rintro w1 rfl; replace hS := hS.drew)
       have hK := hS.ref (· = b2)
       conv=>whnf
       refine hS.laXF 2 rfl rfl hne ?_
       conv=>whnf
       refine hS.ldF 2 rfl rfl hne ?_
       conv=>whnf
       refine brD (fun h11 => ?_) (fun h11 => ?_)
       · (conv => whnf)
         refine hS.ldF 2 rfl rfl hne ?_
         conv=>whnf
         refine hS.stK hK 0 rfl (lbO rfl) rfl rfl (fun w' hK hS => KeepC.mk hK ?_)
         replace hS : St w No w' [blk b2 98 (encRule r), ownL 9 1 encT (.slice (some ⟨b, 0, none⟩) 4 d) [a, b4, p, n], blk b5 98 (encRule r), ownL 9 1 encT (.slice (some ⟨bw, 0, none⟩) 2 d2) [x, y]] := hS
         conv=>whnf
         refine hS.laX 0 rfl rfl ?_
         repeat' ((conv => whnf); first | refine RetC.mk ?_ | refine NzC.mk (by decide) ?_ | refine rgO ?_ | refine ixO ?_ | refine brD ?_ ?_ <;> (intro) | refine brND ?_ ?_ <;> (intro) | refine brN ?_ ?_ <;> (intro) | refine brI ?_ ?_ <;> (intro))
         refine ⟨⟨r, _, rfl, ?_⟩, hS.ext⟩
         rw [hg]
         by_cases h12 : 0 ≤ r.top
         · rw [if_pos ⟨by omega, h12⟩, if_pos (decide_eq_true (by omega))]
         · rw [if_neg (fun h => h12 h.2), if_neg (fun h => h12 (of_decide_eq_true h))]
       · (conv => whnf)
         refine hS.stK hK 0 rfl (lbO rfl) rfl rfl (fun w' hK hS => KeepC.mk hK ?_)
         replace hS : St w No w' [blk b2 98 (encRule r), ownL 9 1 encT (.slice (some ⟨b, 0, none⟩) 4 d) [a, b4, p, n], blk b5 98 (encRule r), ownL 9 1 encT (.slice (some ⟨bw, 0, none⟩) 2 d2) [x, y]] := hS
         conv=>whnf
         refine hS.laX 0 rfl rfl ?_
         repeat' ((conv => whnf); first | refine RetC.mk ?_ | refine NzC.mk (by decide) ?_ | refine rgO ?_ | refine ixO ?_ | refine brD ?_ ?_ <;> (intro) | refine brND ?_ ?_ <;> (intro) | refine brN ?_ ?_ <;> (intro) | refine brI ?_ ?_ <;> (intro))
         refine ⟨⟨r, _, rfl, ?_⟩, hS.ext⟩
         rw [hg, if_neg (fun h => by omega), if_neg (by simp)]
     conv=>whnf
     refine eqS2 ?_
     conv=>whnf
     refine brD (fun h9 => ?_) (fun h9 => ?_)
     · (conv => whnf)
       refine hS.st 2 rfl (lbO rfl) rfl (fun w' hS => ?_)
       have hp : protoK p = 2 := (if_neg h7).trans ((if_neg h8).trans (if_pos h9))
       replace hS : St w No _ [blk b2 98 (encRule noRule), ownL 9 1 encT (.slice (some ⟨b, 0, none⟩) 4 d) [a, b4, p, n], blk b5 98 (encRule ⟨decide (a = sAllow), decide (b4 = sOut), 2, 0, 0⟩)] := hS
       conv=>whnf
       refine ixO ?_
       conv=>whnf
       refine Ev.ldc (ownT_cell (j := 3) (hS.get 1 rfl) rfl) ?_
       conv=>whnf
       refine (rcutT_ok n 45 (by omega) _).mono ?_
       rintro v w3 ⟨⟨a2, d2, rfl, ho, hf⟩, hx⟩
       replace hS := hS.madeL hx ho hf
       clear hx ho hf
       conv=>whnf
       refine brND (fun h10 => ?_) (fun h10 => ?_)
       · have hbad := ruleOfS_bad2 hw (by omega)
         conv=>whnf
         refine hS.st 0 rfl (lbO rfl) rfl (fun w' hS => ?_)
         conv=>whnf
         refine hS.laX 0 rfl rfl ?_
         repeat' ((conv => whnf); first | refine RetC.mk ?_ | refine NzC.mk (by decide) ?_ | refine rgO ?_ | refine ixO ?_ | refine brD ?_ ?_ <;> (intro) | refine brND ?_ ?_ <;> (intro) | refine brN ?_ ?_ <;> (intro) | refine brI ?_ ?_ <;> (intro))
         exact ⟨⟨noRule, false, rfl, hbad⟩, hS.ext⟩
       obtain ⟨x, y, hxy⟩ := words2 (s := n) (by omega)
       have hcl2 := cutR_mem_len (c := 45) (l := n) (w := x) (by rw [hxy]; exact List.mem_cons_self)
       have hcl3 := cutR_mem_len (c := 45) (l := n) (w := y) (by rw [hxy]; exact List.mem_cons_of_mem _ List.mem_cons_self)
       have hg := ruleOfS_good hw ha hb4 hp (by omega) hxy
       rw [hxy] at hS ⊢
       obtain ⟨bw, rfl⟩ := ownT_some (hS.get 3 rfl) (by simp)
       have hl2 : ([x, y] : List (List UInt8)).length = 2 := rfl
       conv=>whnf
       refine ixO ?_
       conv=>whnf
       refine Ev.ldc (ownT_cell (j := 0) (hS.get 3 rfl) rfl) ?_
       conv=>whnf
       refine (numberOf_ok x 5 (by omega) (by omega) _).mono ?_
       rintro v w4 ⟨rfl, hx⟩
       replace hS := hS.no hx
       clear hx
       conv=>whnf
       refine hS.st 2 rfl (lbO rfl) rfl (fun w' hS => ?_)
       conv=>whnf
       refine ixO ?_
       conv=>whnf
       refine Ev.ldc (ownT_cell (j := 1) (hS.get 3 rfl) rfl) ?_
       conv=>whnf
       refine (numberOf_ok y 5 (by omega) (by omega) _).mono ?_
       rintro v w5 ⟨rfl, hx⟩
       replace hS := hS.no hx
       clear hx
       conv=>whnf
       refine hS.st 2 rfl (lbO rfl) rfl (fun w' hS => ?_)
       generalize hr : (⟨decide (a = sAllow), decide (b4 = sOut), 2, numS x 5, numS y 5⟩ : RuleS) = r at hg
       have hr1 : r.low = numS x 5 := by rw [← hr]
       have hr2 : r.top = numS y 5 := by rw [← hr]
       replace hS : St w No w' [blk b2 98 (encRule noRule), ownL 9 1 encT (.slice (some ⟨b, 0, none⟩) 4 d) [a, b4, p, n], blk b5 98 (encRule r), ownL 9 1 encT (.slice (some ⟨bw, 0, none⟩) 2 d2) [x, y]] := by
         rw [← hr]
         exact hS
       rw [← hr1, ← hr2] at hg
       clear hr1 hr2
       have hne := hS.ne 2 0 rfl rfl (by decide)
       conv=>whnf
       (refine drawS tabOk mixed [] ((· = b2)) [0, 1, 2, 3, 4, 5, 6, 7, 8, 9, 10] (by kernel_rfl) ?_; rintro w1 rfl; replace hS := hS.drew)
       have hK := hS.ref (· = b2)
       conv=>whnf
       refine hS.laXF 2 rfl rfl hne ?_
       conv=>whnf
       refine hS.ldF 2 rfl rfl hne ?_
       conv=>whnf
       refine brD (fun h11 => ?_) (fun h11 => ?_)
       · (conv => whnf)
         refine hS.ldF 2 rfl rfl hne ?_
         conv=>whnf
         refine hS.stK hK 0 rfl (lbO rfl) rfl rfl (fun w' hK hS => KeepC.mk hK ?_)
         replace hS : St w No w' [blk b2 98 (encRule r), ownL 9 1 encT (.slice (some ⟨b, 0, none⟩) 4 d) [a, b4, p, n], blk b5 98 (encRule r), ownL 9 1 encT (.slice (some ⟨bw, 0, none⟩) 2 d2) [x, y]] := hS
         conv=>whnf
         refine hS.laX 0 rfl rfl ?_
         repeat' ((conv => whnf); first | refine RetC.mk ?_ | refine NzC.mk (by decide) ?_ | refine rgO ?_ | refine ixO ?_ | refine brD ?_ ?_ <;> (intro) | refine brND ?_ ?_ <;> (intro) | refine brN ?_ ?_ <;> (intro) | refine brI ?_ ?_ <;> (intro))
         refine ⟨⟨r, _, rfl, ?_⟩, hS.ext⟩
         rw [hg]
         by_cases h12 : 0 ≤ r.top
         · rw [if_pos ⟨by omega, h12⟩, if_pos (decide_eq_true (by omega))]
         · rw [if_neg (fun h => h12 h.2), if_neg (fun h => h12 (of_decide_eq_true h))]
       · (conv => whnf)
         refine hS.stK hK 0 rfl (lbO rfl) rfl rfl (fun w' hK hS => KeepC.mk hK ?_)
         replace hS : St w No w' [blk b2 98 (encRule r), ownL 9 1 encT (.slice (some ⟨b, 0, none⟩) 4 d) [a, b4, p, n], blk b5 98 (encRule r), ownL 9 1 encT (.slice (some ⟨bw, 0, none⟩) 2 d2) [x, y]] := hS
         conv=>whnf
         refine hS.laX 0 rfl rfl ?_
         repeat' ((conv => whnf); first | refine RetC.mk ?_ | refine NzC.mk (by decide) ?_ | refine rgO ?_ | refine ixO ?_ | refine brD ?_ ?_ <;> (intro) | refine brND ?_ ?_ <;> (intro) | refine brN ?_ ?_ <;> (intro) | refine brI ?_ ?_ <;> (intro))
         refine ⟨⟨r, _, rfl, ?_⟩, hS.ext⟩
         rw [hg, if_neg (fun h => by omega), if_neg (by simp)]
     have g7 : ¬ p = sAny := h7
     have g8 : ¬ p = sUdp := h8
     have g9 : ¬ p = sTcp := h9
     have hbad : ruleOfS s = none := ruleOfS_bad hw (fun h => by
       have h2 := h.2.2
       unfold protoK at h2
       rw [if_neg g7, if_neg g8, if_neg g9] at h2
       exact absurd h2 (by decide))
     conv=>whnf
     refine hS.st 0 rfl (lbO rfl) rfl (fun w' hS => ?_)
     conv=>whnf
     refine hS.laX 0 rfl rfl ?_
     repeat' ((conv => whnf); first | refine RetC.mk ?_ | refine NzC.mk (by decide) ?_ | refine rgO ?_ | refine ixO ?_ | refine brD ?_ ?_ <;> (intro) | refine brND ?_ ?_ <;> (intro) | refine brN ?_ ?_ <;> (intro) | refine brI ?_ ?_ <;> (intro))
     exact ⟨⟨noRule, false, rfl, hbad⟩, hS.ext⟩
   have ha : a = sAllow ∨ a = sDeny := .inr h2
   have hb4 : b4 = sOut ∨ b4 = sIn := .inl h5
   conv=>whnf
   refine ixO ?_
   conv=>whnf
   refine Ev.ldc (ownT_cell (j := 2) (hS.get 1 rfl) rfl) ?_
   conv=>whnf
   refine eqS2 ?_
   conv=>whnf
   refine brD (fun h7 => ?_) (fun h7 => ?_)
   · (conv => whnf)
     refine hS.st 2 rfl (lbO rfl) rfl (fun w' hS => ?_)
     have hp : protoK p = 0 := if_pos h7
     replace hS : St w No _ [blk b2 98 (encRule noRule), ownL 9 1 encT (.slice (some ⟨b, 0, none⟩) 4 d) [a, b4, p, n], blk b5 98 (encRule ⟨decide (a = sAllow), decide (b4 = sOut), 0, 0, 0⟩)] := hS
     conv=>whnf
     refine ixO ?_
     conv=>whnf
     refine Ev.ldc (ownT_cell (j := 3) (hS.get 1 rfl) rfl) ?_
     conv=>whnf
     refine (rcutT_ok n 45 (by omega) _).mono ?_
     rintro v w3 ⟨⟨a2, d2, rfl, ho, hf⟩, hx⟩
     replace hS := hS.madeL hx ho hf
     clear hx ho hf
     conv=>whnf
     refine brND (fun h10 => ?_) (fun h10 => ?_)
     · have hbad := ruleOfS_bad2 hw (by omega)
       conv=>whnf
       refine hS.st 0 rfl (lbO rfl) rfl (fun w' hS => ?_)
       conv=>whnf
       refine hS.laX 0 rfl rfl ?_
       repeat' ((conv => whnf); first | refine RetC.mk ?_ | refine NzC.mk (by decide) ?_ | refine rgO ?_ | refine ixO ?_ | refine brD ?_ ?_ <;> (intro) | refine brND ?_ ?_ <;> (intro) | refine brN ?_ ?_ <;> (intro) | refine brI ?_ ?_ <;> (intro))
       exact ⟨⟨noRule, false, rfl, hbad⟩, hS.ext⟩
     obtain ⟨x, y, hxy⟩ := words2 (s := n) (by omega)
     have hcl2 := cutR_mem_len (c := 45) (l := n) (w := x) (by rw [hxy]; exact List.mem_cons_self)
     have hcl3 := cutR_mem_len (c := 45) (l := n) (w := y) (by rw [hxy]; exact List.mem_cons_of_mem _ List.mem_cons_self)
     have hg := ruleOfS_good hw ha hb4 hp (by omega) hxy
     rw [hxy] at hS ⊢
     obtain ⟨bw, rfl⟩ := ownT_some (hS.get 3 rfl) (by simp)
     have hl2 : ([x, y] : List (List UInt8)).length = 2 := rfl
     conv=>whnf
     refine ixO ?_
     conv=>whnf
     refine Ev.ldc (ownT_cell (j := 0) (hS.get 3 rfl) rfl) ?_
     conv=>whnf
     refine (numberOf_ok x 5 (by omega) (by omega) _).mono ?_
     rintro v w4 ⟨rfl, hx⟩
     replace hS := hS.no hx
     clear hx
     conv=>whnf
     refine hS.st 2 rfl (lbO rfl) rfl (fun w' hS => ?_)
     conv=>whnf
     refine ixO ?_
     conv=>whnf
     refine Ev.ldc (ownT_cell (j := 1) (hS.get 3 rfl) rfl) ?_
     conv=>whnf
     refine (numberOf_ok y 5 (by omega) (by omega) _).mono ?_
     rintro v w5 ⟨rfl, hx⟩
     replace hS := hS.no hx
     clear hx
     conv=>whnf
     refine hS.st 2 rfl (lbO rfl) rfl (fun w' hS => ?_)
     generalize hr : (⟨decide (a = sAllow), decide (b4 = sOut), 0, numS x 5, numS y 5⟩ : RuleS) = r at hg
     have hr1 : r.low = numS x 5 := by rw [← hr]
     have hr2 : r.top = numS y 5 := by rw [← hr]
     replace hS : St w No w' [blk b2 98 (encRule noRule), ownL 9 1 encT (.slice (some ⟨b, 0, none⟩) 4 d) [a, b4, p, n], blk b5 98 (encRule r), ownL 9 1 encT (.slice (some ⟨bw, 0, none⟩) 2 d2) [x, y]] := by
       rw [← hr]
       exact hS
     rw [← hr1, ← hr2] at hg
     clear hr1 hr2
     have hne := hS.ne 2 0 rfl rfl (by decide)
     conv=>whnf
     (refine drawS tabOk mixed [] ((· = b2)) [0, 1, 2, 3, 4, 5, 6, 7, 8, 9, 10] (by kernel_rfl) ?_; rintro w1 rfl; replace hS := hS.drew)
     have hK := hS.ref (· = b2)
     conv=>whnf
     refine hS.laXF 2 rfl rfl hne ?_
     conv=>whnf
     refine hS.ldF 2 rfl rfl hne ?_
     conv=>whnf
     refine brD (fun h11 => ?_) (fun h11 => ?_)
     · (conv => whnf)
       refine hS.ldF 2 rfl rfl hne ?_
       conv=>whnf
       refine hS.stK hK 0 rfl (lbO rfl) rfl rfl (fun w' hK hS => KeepC.mk hK ?_)
       replace hS : St w No w' [blk b2 98 (encRule r), ownL 9 1 encT (.slice (some ⟨b, 0, none⟩) 4 d) [a, b4, p, n], blk b5 98 (encRule r), ownL 9 1 encT (.slice (some ⟨bw, 0, none⟩) 2 d2) [x, y]] := hS
       conv=>whnf
       refine hS.laX 0 rfl rfl ?_
       repeat' ((conv => whnf); first | refine RetC.mk ?_ | refine NzC.mk (by decide) ?_ | refine rgO ?_ | refine ixO ?_ | refine brD ?_ ?_ <;> (intro) | refine brND ?_ ?_ <;> (intro) | refine brN ?_ ?_ <;> (intro) | refine brI ?_ ?_ <;> (intro))
       refine ⟨⟨r, _, rfl, ?_⟩, hS.ext⟩
       rw [hg]
       by_cases h12 : 0 ≤ r.top
       · rw [if_pos ⟨by omega, h12⟩, if_pos (decide_eq_true (by omega))]
       · rw [if_neg (fun h => h12 h.2), if_neg (fun h => h12 (of_decide_eq_true h))]
     · (conv => whnf)
       refine hS.stK hK 0 rfl (lbO rfl) rfl rfl (fun w' hK hS => KeepC.mk hK ?_)
       replace hS : St w No w' [blk b2 98 (encRule r), ownL 9 1 encT (.slice (some ⟨b, 0, none⟩) 4 d) [a, b4, p, n], blk b5 98 (encRule r), ownL 9 1 encT (.slice (some ⟨bw, 0, none⟩) 2 d2) [x, y]] := hS
       conv=>whnf
       refine hS.laX 0 rfl rfl ?_
       repeat' ((conv => whnf); first | refine RetC.mk ?_ | refine NzC.mk (by decide) ?_ | refine rgO ?_ | refine ixO ?_ | refine brD ?_ ?_ <;> (intro) | refine brND ?_ ?_ <;> (intro) | refine brN ?_ ?_ <;> (intro) | refine brI ?_ ?_ <;> (intro))
       refine ⟨⟨r, _, rfl, ?_⟩, hS.ext⟩
       rw [hg, if_neg (fun h => by omega), if_neg (by simp)]
   conv=>whnf
   refine eqS2 ?_
   conv=>whnf
   refine brD (fun h8 => ?_) (fun h8 => ?_)
   · (conv => whnf)
     refine hS.st 2 rfl (lbO rfl) rfl (fun w' hS => ?_)
     have hp : protoK p = 1 := (if_neg h7).trans (if_pos h8)
     replace hS : St w No _ [blk b2 98 (encRule noRule), ownL 9 1 encT (.slice (some ⟨b, 0, none⟩) 4 d) [a, b4, p, n], blk b5 98 (encRule ⟨decide (a = sAllow), decide (b4 = sOut), 1, 0, 0⟩)] := hS
     conv=>whnf
     refine ixO ?_
     conv=>whnf
     refine Ev.ldc (ownT_cell (j := 3) (hS.get 1 rfl) rfl) ?_
     conv=>whnf
     refine (rcutT_ok n 45 (by omega) _).mono ?_
     rintro v w3 ⟨⟨a2, d2, rfl, ho, hf⟩, hx⟩
     replace hS := hS.madeL hx ho hf
     clear hx ho hf
     conv=>whnf
     refine brND (fun h10 => ?_) (fun h10 => ?_)
     · have hbad := ruleOfS_bad2 hw (by omega)
       conv=>whnf
       refine hS.st 0 rfl (lbO rfl) rfl (fun w' hS => ?_)
       conv=>whnf
       refine hS.laX 0 rfl rfl ?_
       repeat' ((conv => whnf); first | refine RetC.mk ?_ | refine NzC.mk (by decide) ?_ | refine rgO ?_ | refine ixO ?_ | refine brD ?_ ?_ <;> (intro) | refine brND ?_ ?_ <;> (intro) | refine brN ?_ ?_ <;> (intro) | refine brI ?_ ?_ <;> (intro))
       exact ⟨⟨noRule, false, rfl, hbad⟩, hS.ext⟩
     obtain ⟨x, y, hxy⟩ := words2 (s := n) (by omega)
     have hcl2 := cutR_mem_len (c := 45) (l := n) (w := x) (by rw [hxy]; exact List.mem_cons_self)
     have hcl3 := cutR_mem_len (c := 45) (l := n) (w := y) (by rw [hxy]; exact List.mem_cons_of_mem _ List.mem_cons_self)
     have hg := ruleOfS_good hw ha hb4 hp (by omega) hxy
     rw [hxy] at hS ⊢
     obtain ⟨bw, rfl⟩ := ownT_some (hS.get 3 rfl) (by simp)
     have hl2 : ([x, y] : List (List UInt8)).length = 2 := rfl
     conv=>whnf
     refine ixO ?_
     conv=>whnf
     refine Ev.ldc (ownT_cell (j := 0) (hS.get 3 rfl) rfl) ?_
     conv=>whnf
     refine (numberOf_ok x 5 (by omega) (by omega) _).mono ?_
     rintro v w4 ⟨rfl, hx⟩
     replace hS := hS.no hx
     clear hx
     conv=>whnf
     refine hS.st 2 rfl (lbO rfl) rfl (fun w' hS => ?_)
     conv=>whnf
     refine ixO ?_
     conv=>whnf
     refine Ev.ldc (ownT_cell (j := 1) (hS.get 3 rfl) rfl) ?_
     conv=>whnf
     refine (numberOf_ok y 5 (by omega) (by omega) _).mono ?_
     rintro v w5 ⟨rfl, hx⟩
     replace hS := hS.no hx
     clear hx
     conv=>whnf
     refine hS.st 2 rfl (lbO rfl) rfl (fun w' hS => ?_)
     generalize hr : (⟨decide (a = sAllow), decide (b4 = sOut), 1, numS x 5, numS y 5⟩ : RuleS) = r at hg
     have hr1 : r.low = numS x 5 := by rw [← hr]
     have hr2 : r.top = numS y 5 := by rw [← hr]
     replace hS : St w No w' [blk b2 98 (encRule noRule), ownL 9 1 encT (.slice (some ⟨b, 0, none⟩) 4 d) [a, b4, p, n], blk b5 98 (encRule r), ownL 9 1 encT (.slice (some ⟨bw, 0, none⟩) 2 d2) [x, y]] := by
       rw [← hr]
       exact hS
     rw [← hr1, ← hr2] at hg
     clear hr1 hr2
     have hne := hS.ne 2 0 rfl rfl (by decide)
     conv=>whnf
     (refine drawS tabOk mixed [] ((· = b2)) [0, 1, 2, 3, 4, 5, 6, 7, 8, 9, 10] (by kernel_rfl) ?_; rintro w1 rfl; replace hS := hS.drew)
     have hK := hS.ref (· = b2)
     conv=>whnf
     refine hS.laXF 2 rfl rfl hne ?_
     conv=>whnf
     refine hS.ldF 2 rfl rfl hne ?_
     conv=>whnf
     refine brD (fun h11 => ?_) (fun h11 => ?_)
     · (conv => whnf)
       refine hS.ldF 2 rfl rfl hne ?_
       conv=>whnf
       refine hS.stK hK 0 rfl (lbO rfl) rfl rfl (fun w' hK hS => KeepC.mk hK ?_)
       replace hS : St w No w' [blk b2 98 (encRule r), ownL 9 1 encT (.slice (some ⟨b, 0, none⟩) 4 d) [a, b4, p, n], blk b5 98 (encRule r), ownL 9 1 encT (.slice (some ⟨bw, 0, none⟩) 2 d2) [x, y]] := hS
       conv=>whnf
       refine hS.laX 0 rfl rfl ?_
       repeat' ((conv => whnf); first | refine RetC.mk ?_ | refine NzC.mk (by decide) ?_ | refine rgO ?_ | refine ixO ?_ | refine brD ?_ ?_ <;> (intro) | refine brND ?_ ?_ <;> (intro) | refine brN ?_ ?_ <;> (intro) | refine brI ?_ ?_ <;> (intro))
       refine ⟨⟨r, _, rfl, ?_⟩, hS.ext⟩
       rw [hg]
       by_cases h12 : 0 ≤ r.top
       · rw [if_pos ⟨by omega, h12⟩, if_pos (decide_eq_true (by omega))]
       · rw [if_neg (fun h => h12 h.2), if_neg (fun h => h12 (of_decide_eq_true h))]
     · (conv => whnf)
       refine hS.stK hK 0 rfl (lbO rfl) rfl rfl (fun w' hK hS => KeepC.mk hK ?_)
       replace hS : St w No w' [blk b2 98 (encRule r), ownL 9 1 encT (.slice (some ⟨b, 0, none⟩) 4 d) [a, b4, p, n], blk b5 98 (encRule r), ownL 9 1 encT (.slice (some ⟨bw, 0, none⟩) 2 d2) [x, y]] := hS
       conv=>whnf
       refine hS.laX 0 rfl rfl ?_
       repeat' ((conv => whnf); first | refine RetC.mk ?_ | refine NzC.mk (by decide) ?_ | refine rgO ?_ | refine ixO ?_ | refine brD ?_ ?_ <;> (intro) | refine brND ?_ ?_ <;> (intro) | refine brN ?_ ?_ <;> (intro) | refine brI ?_ ?_ <;> (intro))
       refine ⟨⟨r, _, rfl, ?_⟩, hS.ext⟩
       rw [hg, if_neg (fun h => by omega), if_neg (by simp)]
   conv=>whnf
   refine eqS2 ?_
   conv=>whnf
   refine brD (fun h9 => ?_) (fun h9 => ?_)
   · (conv => whnf)
     refine hS.st 2 rfl (lbO rfl) rfl (fun w' hS => ?_)
     have hp : protoK p = 2 := (if_neg h7).trans ((if_neg h8).trans (if_pos h9))
     replace hS : St w No _ [blk b2 98 (encRule noRule), ownL 9 1 encT (.slice (some ⟨b, 0, none⟩) 4 d) [a, b4, p, n], blk b5 98 (encRule ⟨decide (a = sAllow), decide (b4 = sOut), 2, 0, 0⟩)] := hS
     conv=>whnf
     refine ixO ?_
     conv=>whnf
     refine Ev.ldc (ownT_cell (j := 3) (hS.get 1 rfl) rfl) ?_
     conv=>whnf
     refine (rcutT_ok n 45 (by omega) _).mono ?_
     rintro v w3 ⟨⟨a2, d2, rfl, ho, hf⟩, hx⟩
     replace hS := hS.madeL hx ho hf
     clear hx ho hf
     conv=>whnf
     refine brND (fun h10 => ?_) (fun h10 => ?_)
     · have hbad := ruleOfS_bad2 hw (by omega)
       conv=>whnf
       refine hS.st 0 rfl (lbO rfl) rfl (fun w' hS => ?_)
       conv=>whnf
       refine hS.laX 0 rfl rfl ?_
       repeat' ((conv => whnf); first | refine RetC.mk ?_ | refine NzC.mk (by decide) ?_ | refine rgO ?_ | refine ixO ?_ | refine brD ?_ ?_ <;> (intro) | refine brND ?_ ?_ <;> (intro) | refine brN ?_ ?_ <;> (intro) | refine brI ?_ ?_ <;> (intro))
       exact ⟨⟨noRule, false, rfl, hbad⟩, hS.ext⟩
     obtain ⟨x, y, hxy⟩ := words2 (s := n) (by omega)
     have hcl2 := cutR_mem_len (c := 45) (l := n) (w := x) (by rw [hxy]; exact List.mem_cons_self)
     have hcl3 := cutR_mem_len (c := 45) (l := n) (w := y) (by rw [hxy]; exact List.mem_cons_of_mem _ List.mem_cons_self)
     have hg := ruleOfS_good hw ha hb4 hp (by omega) hxy
     rw [hxy] at hS ⊢
     obtain ⟨bw, rfl⟩ := ownT_some (hS.get 3 rfl) (by simp)
     have hl2 : ([x, y] : List (List UInt8)).length = 2 := rfl
     conv=>whnf
     refine ixO ?_
     conv=>whnf
     refine Ev.ldc (ownT_cell (j := 0) (hS.get 3 rfl) rfl) ?_
     conv=>whnf
     refine (numberOf_ok x 5 (by omega) (by omega) _).mono ?_
     rintro v w4 ⟨rfl, hx⟩
     replace hS := hS.no hx
     clear hx
     conv=>whnf
     refine hS.st 2 rfl (lbO rfl) rfl (fun w' hS => ?_)
     conv=>whnf
     refine ixO ?_
     conv=>whnf
     refine Ev.ldc (ownT_cell (j := 1) (hS.get 3 rfl) rfl) ?_
     conv=>whnf
     refine (numberOf_ok y 5 (by omega) (by omega) _).mono ?_
     rintro v w5 ⟨rfl, hx⟩
     replace hS := hS.no hx
     clear hx
     conv=>whnf
     refine hS.st 2 rfl (lbO rfl) rfl (fun w' hS => ?_)
     generalize hr : (⟨decide (a = sAllow), decide (b4 = sOut), 2, numS x 5, numS y 5⟩ : RuleS) = r at hg
     have hr1 : r.low = numS x 5 := by rw [← hr]
     have hr2 : r.top = numS y 5 := by rw [← hr]
     replace hS : St w No w' [blk b2 98 (encRule noRule), ownL 9 1 encT (.slice (some ⟨b, 0, none⟩) 4 d) [a, b4, p, n], blk b5 98 (encRule r), ownL 9 1 encT (.slice (some ⟨bw, 0, none⟩) 2 d2) [x, y]] := by
       rw [← hr]
       exact hS
     rw [← hr1, ← hr2] at hg
     clear hr1 hr2
     have hne := hS.ne 2 0 rfl rfl (by decide)
     conv=>whnf
     (refine drawS tabOk mixed [] ((· = b2)) [0, 1, 2, 3, 4, 5, 6, 7, 8, 9, 10] (by kernel_rfl) ?_; rintro w1 rfl; replace hS := hS.drew)
     have hK := hS.ref (· = b2)
     conv=>whnf
     refine hS.laXF 2 rfl rfl hne ?_
     conv=>whnf
     refine hS.ldF 2 rfl rfl hne ?_
     conv=>whnf
     refine brD (fun h11 => ?_) (fun h11 => ?_)
     · (conv => whnf)
       refine hS.ldF 2 rfl rfl hne ?_
       conv=>whnf
       refine hS.stK hK 0 rfl (lbO rfl) rfl rfl (fun w' hK hS => KeepC.mk hK ?_)
       replace hS : St w No w' [blk b2 98 (encRule r), ownL 9 1 encT (.slice (some ⟨b, 0, none⟩) 4 d) [a, b4, p, n], blk b5 98 (encRule r), ownL 9 1 encT (.slice (some ⟨bw, 0, none⟩) 2 d2) [x, y]] := hS
       conv=>whnf
       refine hS.laX 0 rfl rfl ?_
       repeat' ((conv => whnf); first | refine RetC.mk ?_ | refine NzC.mk (by decide) ?_ | refine rgO ?_ | refine ixO ?_ | refine brD ?_ ?_ <;> (intro) | refine brND ?_ ?_ <;> (intro) | refine brN ?_ ?_ <;> (intro) | refine brI ?_ ?_ <;> (intro))
       refine ⟨⟨r, _, rfl, ?_⟩, hS.ext⟩
       rw [hg]
       by_cases h12 : 0 ≤ r.top
       · rw [if_pos ⟨by omega, h12⟩, if_pos (decide_eq_true (by omega))]
       · rw [if_neg (fun h => h12 h.2), if_neg (fun h => h12 (of_decide_eq_true h))]
     · (conv => whnf)
       refine hS.stK hK 0 rfl (lbO rfl) rfl rfl (fun w' hK hS => KeepC.mk hK ?_)
       replace hS : St w No w' [blk b2 98 (encRule r), ownL 9 1 encT (.slice (some ⟨b, 0, none⟩) 4 d) [a, b4, p, n], blk b5 98 (encRule r), ownL 9 1 encT (.slice (some ⟨bw, 0, none⟩) 2 d2) [x, y]] := hS
       conv=>whnf
       refine hS.laX 0 rfl rfl ?_
       repeat' ((conv => whnf); first | refine RetC.mk ?_ | refine NzC.mk (by decide) ?_ | refine rgO ?_ | refine ixO ?_ | refine brD ?_ ?_ <;> (intro) | refine brND ?_ ?_ <;> (intro) | refine brN ?_ ?_ <;> (intro) | refine brI ?_ ?_ <;> (intro))
       refine ⟨⟨r, _, rfl, ?_⟩, hS.ext⟩
       rw [hg, if_neg (fun h => by omega), if_neg (by simp)]
   have g7 : ¬ p = sAny := h7
   have g8 : ¬ p = sUdp := h8
   have g9 : ¬ p = sTcp := h9
   have hbad : ruleOfS s = none := ruleOfS_bad hw (fun h => by
     have h2 := h.2.2
     unfold protoK at h2
     rw [if_neg g7, if_neg g8, if_neg g9] at h2
     exact absurd h2 (by decide))
   conv=>whnf
   refine hS.st 0 rfl (lbO rfl) rfl (fun w' hS => ?_)
   conv=>whnf
   refine hS.laX 0 rfl rfl ?_
   repeat' ((conv => whnf); first | refine RetC.mk ?_ | refine NzC.mk (by decide) ?_ | refine rgO ?_ | refine ixO ?_ | refine brD ?_ ?_ <;> (intro) | refine brND ?_ ?_ <;> (intro) | refine brN ?_ ?_ <;> (intro) | refine brI ?_ ?_ <;> (intro))
   exact ⟨⟨noRule, false, rfl, hbad⟩, hS.ext⟩
 conv=>whnf
 refine ixO ?_
 conv=>whnf
 refine Ev.ldc (ownT_cell (j := 1) (hS.get 1 rfl) rfl) ?_
 conv=>whnf
 refine neS2 ?_
 conv=>whnf
 refine brND (fun h5 => ?_) (fun h5 => ?_)
 · (conv => whnf)
   refine ixO ?_
   conv=>whnf
   refine Ev.ldc (ownT_cell (j := 1) (hS.get 1 rfl) rfl) ?_
   conv=>whnf
   refine neS2 ?_
   conv=>whnf
   refine brND (fun h6 => ?_) (fun h6 => ?_)
   · have hbad : ruleOfS s = none := ruleOfS_bad hw (fun h => h.2.1.elim h5 h6)
     conv=>whnf
     refine hS.st 0 rfl (lbO rfl) rfl (fun w' hS => ?_)
     conv=>whnf
     refine hS.laX 0 rfl rfl ?_
     repeat' ((conv => whnf); first | refine RetC.mk ?_ | refine NzC.mk (by decide) ?_ | refine rgO ?_ | refine ixO ?_ | refine brD ?_ ?_ <;> (intro) | refine brND ?_ ?_ <;> (intro) | refine brN ?_ ?_ <;> (intro) | refine brI ?_ ?_ <;> (intro))
     exact ⟨⟨noRule, false, rfl, hbad⟩, hS.ext⟩
   have ha : a = sAllow ∨ a = sDeny := .inl h1
   have hb4 : b4 = sOut ∨ b4 = sIn := .inr h6
   conv=>whnf
   refine ixO ?_
   conv=>whnf
   refine Ev.ldc (ownT_cell (j := 2) (hS.get 1 rfl) rfl) ?_
   conv=>whnf
   refine eqS2 ?_
   conv=>whnf
   refine brD (fun h7 => ?_) (fun h7 => ?_)
   · (conv => whnf)
     refine hS.st 2 rfl (lbO rfl) rfl (fun w' hS => ?_)
     have hp : protoK p = 0 := if_pos h7
     replace hS : St w No _ [blk b2 98 (encRule noRule), ownL 9 1 encT (.slice (some ⟨b, 0, none⟩) 4 d) [a, b4, p, n], blk b5 98 (encRule ⟨decide (a = sAllow), decide (b4 = sOut), 0, 0, 0⟩)] := hS
     conv=>whnf
     refine ixO ?_
     conv=>whnf
     refine Ev.ldc (ownT_cell (j := 3) (hS.get 1 rfl) rfl) ?_
     conv=>whnf
     refine (rcutT_ok n 45 (by omega) _).mono ?_
     rintro v w3 ⟨⟨a2, d2, rfl, ho, hf⟩, hx⟩
     replace hS := hS.madeL hx ho hf
     clear hx ho hf
     conv=>whnf
     refine brND (fun h10 => ?_) (fun h10 => ?_)
     · have hbad := ruleOfS_bad2 hw (by omega)
       conv=>whnf
       refine hS.st 0 rfl (lbO rfl) rfl (fun w' hS => ?_)
       conv=>whnf
       refine hS.laX 0 rfl rfl ?_
       repeat' ((conv => whnf); first | refine RetC.mk ?_ | refine NzC.mk (by decide) ?_ | refine rgO ?_ | refine ixO ?_ | refine brD ?_ ?_ <;> (intro) | refine brND ?_ ?_ <;> (intro) | refine brN ?_ ?_ <;> (intro) | refine brI ?_ ?_ <;> (intro))
       exact ⟨⟨noRule, false, rfl, hbad⟩, hS.ext⟩
     obtain ⟨x, y, hxy⟩ := words2 (s := n) (by omega)
     have hcl2 := cutR_mem_len (c := 45) (l := n) (w := x) (by rw [hxy]; exact List.mem_cons_self)
     have hcl3 := cutR_mem_len (c := 45) (l := n) (w := y) (by rw [hxy]; exact List.mem_cons_of_mem _ List.mem_cons_self)
     have hg := ruleOfS_good hw ha hb4 hp (by omega) hxy
     rw [hxy] at hS ⊢
     obtain ⟨bw, rfl⟩ := ownT_some (hS.get 3 rfl) (by simp)
     have hl2 : ([x, y] : List (List UInt8)).length = 2 := rfl
     conv=>whnf
     refine ixO ?_
     conv=>whnf
     refine Ev.ldc (ownT_cell (j := 0) (hS.get 3 rfl) rfl) ?_
     conv=>whnf
     refine (numberOf_ok x 5 (by omega) (by omega) _).mono ?_
     rintro v w4 ⟨rfl, hx⟩
     replace hS := hS.no hx
     clear hx
     conv=>whnf
     refine hS.st 2 rfl (lbO rfl) rfl (fun w' hS => ?_)
     conv=>whnf
     refine ixO ?_
     conv=>whnf
     refine Ev.ldc (ownT_cell (j := 1) (hS.get 3 rfl) rfl) ?_
     conv=>whnf
     refine (numberOf_ok y 5 (by omega) (by omega) _).mono ?_
     rintro v w5 ⟨rfl, hx⟩
     replace hS := hS.no hx
     clear hx
     conv=>whnf
     refine hS.st 2 rfl (lbO rfl) rfl (fun w' hS => ?_)
     generalize hr : (⟨decide (a = sAllow), decide (b4 = sOut), 0, numS x 5, numS y 5⟩ : RuleS) = r at hg
     have hr1 : r.low = numS x 5 := by rw [← hr]
     have hr2 : r.top = numS y 5 := by rw [← hr]
     replace hS : St w No w' [blk b2 98 (encRule noRule), ownL 9 1 encT (.slice (some ⟨b, 0, none⟩) 4 d) [a, b4, p, n], blk b5 98 (encRule r), ownL 9 1 encT (.slice (some ⟨bw, 0, none⟩) 2 d2) [x, y]] := by
       rw [← hr]
       exact hS
     rw [← hr1, ← hr2] at hg
     clear hr1 hr2
     have hne := hS.ne 2 0 rfl rfl (by decide)
     conv=>whnf
     (refine drawS tabOk mixed [] ((· = b2)) [0, 1, 2, 3, 4, 5, 6, 7, 8, 9, 10] (by kernel_rfl) ?_; rintro w1 rfl; replace hS := hS.drew)
     have hK := hS.ref (· = b2)
     conv=>whnf
     refine hS.laXF 2 rfl rfl hne ?_
     conv=>whnf
     refine hS.ldF 2 rfl rfl hne ?_
     conv=>whnf
     refine brD (fun h11 => ?_) (fun h11 => ?_)
     · (conv => whnf)
       refine hS.ldF 2 rfl rfl hne ?_
       conv=>whnf
       refine hS.stK hK 0 rfl (lbO rfl) rfl rfl (fun w' hK hS => KeepC.mk hK ?_)
       replace hS : St w No w' [blk b2 98 (encRule r), ownL 9 1 encT (.slice (some ⟨b, 0, none⟩) 4 d) [a, b4, p, n], blk b5 98 (encRule r), ownL 9 1 encT (.slice (some ⟨bw, 0, none⟩) 2 d2) [x, y]] := hS
       conv=>whnf
       refine hS.laX 0 rfl rfl ?_
       repeat' ((conv => whnf); first | refine RetC.mk ?_ | refine NzC.mk (by decide) ?_ | refine rgO ?_ | refine ixO ?_ | refine brD ?_ ?_ <;> (intro) | refine brND ?_ ?_ <;> (intro) | refine brN ?_ ?_ <;> (intro) | refine brI ?_ ?_ <;> (intro))
       refine ⟨⟨r, _, rfl, ?_⟩, hS.ext⟩
       rw [hg]
       by_cases h12 : 0 ≤ r.top
       · rw [if_pos ⟨by omega, h12⟩, if_pos (decide_eq_true (by omega))]
       · rw [if_neg (fun h => h12 h.2), if_neg (fun h => h12 (of_decide_eq_true h))]
     · (conv => whnf)
       refine hS.stK hK 0 rfl (lbO rfl) rfl rfl (fun w' hK hS => KeepC.mk hK ?_)
       replace hS : St w No w' [blk b2 98 (encRule r), ownL 9 1 encT (.slice (some ⟨b, 0, none⟩) 4 d) [a, b4, p, n], blk b5 98 (encRule r), ownL 9 1 encT (.slice (some ⟨bw, 0, none⟩) 2 d2) [x, y]] := hS
       conv=>whnf
       refine hS.laX 0 rfl rfl ?_
       repeat' ((conv => whnf); first | refine RetC.mk ?_ | refine NzC.mk (by decide) ?_ | refine rgO ?_ | refine ixO ?_ | refine brD ?_ ?_ <;> (intro) | refine brND ?_ ?_ <;> (intro) | refine brN ?_ ?_ <;> (intro) | refine brI ?_ ?_ <;> (intro))
       refine ⟨⟨r, _, rfl, ?_⟩, hS.ext⟩
       rw [hg, if_neg (fun h => by omega), if_neg (by simp)]
   conv=>whnf
   refine eqS2 ?_
   conv=>whnf
   refine brD (fun h8 => ?_) (fun h8 => ?_)
   · (conv => whnf)
     refine hS.st 2 rfl (lbO rfl) rfl (fun w' hS => ?_)
     have hp : protoK p = 1 := (if_neg h7).trans (if_pos h8)
     replace hS : St w No _ [blk b2 98 (encRule noRule), ownL 9 1 encT (.slice (some ⟨b, 0, none⟩) 4 d) [a, b4, p, n], blk b5 98 (encRule ⟨decide (a = sAllow), decide (b4 = sOut), 1, 0, 0⟩)] := hS
     conv=>whnf
     refine ixO ?_
     conv=>whnf
     refine Ev.ldc (ownT_cell (j := 3) (hS.get 1 rfl) rfl) ?_
     conv=>whnf
     refine (rcutT_ok n 45 (by omega) _).mono ?_
     rintro v w3 ⟨⟨a2, d2, rfl, ho, hf⟩, hx⟩
     replace hS := hS.madeL hx ho hf
     clear hx ho hf
     conv=>whnf
     refine brND (fun h10 => ?_) (fun h10 => ?_)
     · have hbad := ruleOfS_bad2 hw (by omega)
       conv=>whnf
       refine hS.st 0 rfl (lbO rfl) rfl (fun w' hS => ?_)
       conv=>whnf
       refine hS.laX 0 rfl rfl ?_
       repeat' ((conv => whnf); first | refine RetC.mk ?_ | refine NzC.mk (by decide) ?_ | refine rgO ?_ | refine ixO ?_ | refine brD ?_ ?_ <;> (intro) | refine brND ?_ ?_ <;> (intro) | refine brN ?_ ?_ <;> (intro) | refine brI ?_ ?_ <;> (intro))
       exact ⟨⟨noRule, false, rfl, hbad⟩, hS.ext⟩
     obtain ⟨x, y, hxy⟩ := words2 (s := n) (by omega)
     have hcl2 := cutR_mem_len (c := 45) (l := n) (w := x) (by rw [hxy]; exact List.mem_cons_self)
     have hcl3 := cutR_mem_len (c := 45) (l := n) (w := y) (by rw [hxy]; exact List.mem_cons_of_mem _ List.mem_cons_self)
     have hg := ruleOfS_good hw ha hb4 hp (by omega) hxy
     rw [hxy] at hS ⊢
     obtain ⟨bw, rfl⟩ := ownT_some (hS.get 3 rfl) (by simp)
     have hl2 : ([x, y] : List (List UInt8)).length = 2 := rfl
     conv=>whnf
     refine ixO ?_
     conv=>whnf
     refine Ev.ldc (ownT_cell (j := 0) (hS.get 3 rfl) rfl) ?_
     conv=>whnf
     refine (numberOf_ok x 5 (by omega) (by omega) _).mono ?_
     rintro v w4 ⟨rfl, hx⟩
     replace hS := hS.no hx
     clear hx
     conv=>whnf
     refine hS.st 2 rfl (lbO rfl) rfl (fun w' hS => ?_)
     conv=>whnf
     refine ixO ?_
     conv=>whnf
     refine Ev.ldc (ownT_cell (j := 1) (hS.get 3 rfl) rfl) ?_
     conv=>whnf
     refine (numberOf_ok y 5 (by omega) (by omega) _).mono ?_
     rintro v w5 ⟨rfl, hx⟩
     replace hS := hS.no hx
     clear hx
     conv=>whnf
     refine hS.st 2 rfl (lbO rfl) rfl (fun w' hS => ?_)
     generalize hr : (⟨decide (a = sAllow), decide (b4 = sOut), 1, numS x 5, numS y 5⟩ : RuleS) = r at hg
     have hr1 : r.low = numS x 5 := by rw [← hr]
     have hr2 : r.top = numS y 5 := by rw [← hr]
     replace hS : St w No w' [blk b2 98 (encRule noRule), ownL 9 1 encT (.slice (some ⟨b, 0, none⟩) 4 d) [a, b4, p, n], blk b5 98 (encRule r), ownL 9 1 encT (.slice (some ⟨bw, 0, none⟩) 2 d2) [x, y]] := by
       rw [← hr]
       exact hS
     rw [← hr1, ← hr2] at hg
     clear hr1 hr2
     have hne := hS.ne 2 0 rfl rfl (by decide)
     conv=>whnf
     (refine drawS tabOk mixed [] ((· = b2)) [0, 1, 2, 3, 4, 5, 6, 7, 8, 9, 10] (by kernel_rfl) ?_; rintro w1 rfl; replace hS := hS.drew)
     have hK := hS.ref (· = b2)
     conv=>whnf
     refine hS.laXF 2 rfl rfl hne ?_
     conv=>whnf
     refine hS.ldF 2 rfl rfl hne ?_
     conv=>whnf
     refine brD (fun h11 => ?_) (fun h11 => ?_)
     · (conv => whnf)
       refine hS.ldF 2 rfl rfl hne ?_
       conv=>whnf
       refine hS.stK hK 0 rfl (lbO rfl) rfl rfl (fun w' hK hS => KeepC.mk hK ?_)
       replace hS : St w No w' [blk b2 98 (encRule r), ownL 9 1 encT (.slice (some ⟨b, 0, none⟩) 4 d) [a, b4, p, n], blk b5 98 (encRule r), ownL 9 1 encT (.slice (some ⟨bw, 0, none⟩) 2 d2) [x, y]] := hS
       conv=>whnf
       refine hS.laX 0 rfl rfl ?_
       repeat' ((conv => whnf); first | refine RetC.mk ?_ | refine NzC.mk (by decide) ?_ | refine rgO ?_ | refine ixO ?_ | refine brD ?_ ?_ <;> (intro) | refine brND ?_ ?_ <;> (intro) | refine brN ?_ ?_ <;> (intro) | refine brI ?_ ?_ <;> (intro))
       refine ⟨⟨r, _, rfl, ?_⟩, hS.ext⟩
       rw [hg]
       by_cases h12 : 0 ≤ r.top
       · rw [if_pos ⟨by omega, h12⟩, if_pos (decide_eq_true (by omega))]
       · rw [if_neg (fun h => h12 h.2), if_neg (fun h => h12 (of_decide_eq_true h))]
     · (conv => whnf)
       refine hS.stK hK 0 rfl (lbO rfl) rfl rfl (fun w' hK hS => KeepC.mk hK ?_)
       replace hS : St w No w' [blk b2 98 (encRule r), ownL 9 1 encT (.slice (some ⟨b, 0, none⟩) 4 d) [a, b4, p, n], blk b5 98 (encRule r), ownL 9 1 encT (.slice (some ⟨bw, 0, none⟩) 2 d2) [x, y]] := hS
       conv=>whnf
       refine hS.laX 0 rfl rfl ?_
       repeat' ((conv => whnf); first | refine RetC.mk ?_ | refine NzC.mk (by decide) ?_ | refine rgO ?_ | refine ixO ?_ | refine brD ?_ ?_ <;> (intro) | refine brND ?_ ?_ <;> (intro) | refine brN ?_ ?_ <;> (intro) | refine brI ?_ ?_ <;> (intro))
       refine ⟨⟨r, _, rfl, ?_⟩, hS.ext⟩
       rw [hg, if_neg (fun h => by omega), if_neg (by simp)]
   conv=>whnf
   refine eqS2 ?_
   conv=>whnf
   refine brD (fun h9 => ?_) (fun h9 => ?_)
   · (conv => whnf)
     refine hS.st 2 rfl (lbO rfl) rfl (fun w' hS => ?_)
     have hp : protoK p = 2 := (if_neg h7).trans ((if_neg h8).trans (if_pos h9))
     replace hS : St w No _ [blk b2 98 (encRule noRule), ownL 9 1 encT (.slice (some ⟨b, 0, none⟩) 4 d) [a, b4, p, n], blk b5 98 (encRule ⟨decide (a = sAllow), decide (b4 = sOut), 2, 0, 0⟩)] := hS
     conv=>whnf
     refine ixO ?_
     conv=>whnf
     refine Ev.ldc (ownT_cell (j := 3) (hS.get 1 rfl) rfl) ?_
     conv=>whnf
     refine (rcutT_ok n 45 (by omega) _).mono ?_
     rintro v w3 ⟨⟨a2, d2, rfl, ho, hf⟩, hx⟩
     replace hS := hS.madeL hx ho hf
     clear hx ho hf
     conv=>whnf
     refine brND (fun h10 => ?_) (fun h10 => ?_)
     · have hbad := ruleOfS_bad2 hw (by omega)
       conv=>whnf
       refine hS.st 0 rfl (lbO rfl) rfl (fun w' hS => ?_)
       conv=>whnf
       refine hS.laX 0 rfl rfl ?_
       repeat' ((conv => whnf); first | refine RetC.mk ?_ | refine NzC.mk (by decide) ?_ | refine rgO ?_ | refine ixO ?_ | refine brD ?_ ?_ <;> (intro) | refine brND ?_ ?_ <;> (intro) | refine brN ?_ ?_ <;> (intro) | refine brI ?_ ?_ <;> (intro))
       exact ⟨⟨noRule, false, rfl, hbad⟩, hS.ext⟩
     obtain ⟨x, y, hxy⟩ := words2 (s := n) (by omega)
     have hcl2 := cutR_mem_len (c := 45) (l := n) (w := x) (by rw [hxy]; exact List.mem_cons_self)
     have hcl3 := cutR_mem_len (c := 45) (l := n) (w := y) (by rw [hxy]; exact List.mem_cons_of_mem _ List.mem_cons_self)
     have hg := ruleOfS_good hw ha hb4 hp (by omega) hxy
     rw [hxy] at hS ⊢
     obtain ⟨bw, rfl⟩ := ownT_some (hS.get 3 rfl) (by simp)
     have hl2 : ([x, y] : List (List UInt8)).length = 2 := rfl
     conv=>whnf
     refine ixO ?_
     conv=>whnf
     refine Ev.ldc (ownT_cell (j := 0) (hS.get 3 rfl) rfl) ?_
     conv=>whnf
     refine (numberOf_ok x 5 (by omega) (by omega) _).mono ?_
     rintro v w4 ⟨rfl, hx⟩
     replace hS := hS.no hx
     clear hx
     conv=>whnf
     refine hS.st 2 rfl (lbO rfl) rfl (fun w' hS => ?_)
     conv=>whnf
     refine ixO ?_
     conv=>whnf
     refine Ev.ldc (ownT_cell (j := 1) (hS.get 3 rfl) rfl) ?_
     conv=>whnf
     refine (numberOf_ok y 5 (by omega) (by omega) _).mono ?_
     rintro v w5 ⟨rfl, hx⟩
     replace hS := hS.no hx
     clear hx
     conv=>whnf
     refine hS.st 2 rfl (lbO rfl) rfl (fun w' hS => ?_)
     generalize hr : (⟨decide (a = sAllow), decide (b4 = sOut), 2, numS x 5, numS y 5⟩ : RuleS) = r at hg
     have hr1 : r.low = numS x 5 := by rw [← hr]
     have hr2 : r.top = numS y 5 := by rw [← hr]
     replace hS : St w No w' [blk b2 98 (encRule noRule), ownL 9 1 encT (.slice (some ⟨b, 0, none⟩) 4 d) [a, b4, p, n], blk b5 98 (encRule r), ownL 9 1 encT (.slice (some ⟨bw, 0, none⟩) 2 d2) [x, y]] := by
       rw [← hr]
       exact hS
     rw [← hr1, ← hr2] at hg
     clear hr1 hr2
     have hne := hS.ne 2 0 rfl rfl (by decide)
     conv=>whnf
     (refine drawS tabOk mixed [] ((· = b2)) [0, 1, 2, 3, 4, 5, 6, 7, 8, 9, 10] (by kernel_rfl) ?_; rintro w1 rfl; replace hS := hS.drew)
     have hK := hS.ref (· = b2)
     conv=>whnf
     refine hS.laXF 2 rfl rfl hne ?_
     conv=>whnf
     refine hS.ldF 2 rfl rfl hne ?_
     conv=>whnf
     refine brD (fun h11 => ?_) (fun h11 => ?_)
     · (conv => whnf)
       refine hS.ldF 2 rfl rfl hne ?_
       conv=>whnf
       refine hS.stK hK 0 rfl (lbO rfl) rfl rfl (fun w' hK hS => KeepC.mk hK ?_)
       replace hS : St w No w' [blk b2 98 (encRule r), ownL 9 1 encT (.slice (some ⟨b, 0, none⟩) 4 d) [a, b4, p, n], blk b5 98 (encRule r), ownL 9 1 encT (.slice (some ⟨bw, 0, none⟩) 2 d2) [x, y]] := hS
       conv=>whnf
       refine hS.laX 0 rfl rfl ?_
       repeat' ((conv => whnf); first | refine RetC.mk ?_ | refine NzC.mk (by decide) ?_ | refine rgO ?_ | refine ixO ?_ | refine brD ?_ ?_ <;> (intro) | refine brND ?_ ?_ <;> (intro) | refine brN ?_ ?_ <;> (intro) | refine brI ?_ ?_ <;> (intro))
       refine ⟨⟨r, _, rfl, ?_⟩, hS.ext⟩
       rw [hg]
       by_cases h12 : 0 ≤ r.top
       · rw [if_pos ⟨by omega, h12⟩, if_pos (decide_eq_true (by omega))]
       · rw [if_neg (fun h => h12 h.2), if_neg (fun h => h12 (of_decide_eq_true h))]
     · (conv => whnf)
       refine hS.stK hK 0 rfl (lbO rfl) rfl rfl (fun w' hK hS => KeepC.mk hK ?_)
       replace hS : St w No w' [blk b2 98 (encRule r), ownL 9 1 encT (.slice (some ⟨b, 0, none⟩) 4 d) [a, b4, p, n], blk b5 98 (encRule r), ownL 9 1 encT (.slice (some ⟨bw, 0, none⟩) 2 d2) [x, y]] := hS
       conv=>whnf
       refine hS.laX 0 rfl rfl ?_
       repeat' ((conv => whnf); first | refine RetC.mk ?_ | refine NzC.mk (by decide) ?_ | refine rgO ?_ | refine ixO ?_ | refine brD ?_ ?_ <;> (intro) | refine brND ?_ ?_ <;> (intro) | refine brN ?_ ?_ <;> (intro) | refine brI ?_ ?_ <;> (intro))
       refine ⟨⟨r, _, rfl, ?_⟩, hS.ext⟩
       rw [hg, if_neg (fun h => by omega), if_neg (by simp)]
   have g7 : ¬ p = sAny := h7
   have g8 : ¬ p = sUdp := h8
   have g9 : ¬ p = sTcp := h9
   have hbad : ruleOfS s = none := ruleOfS_bad hw (fun h => by
     have h2 := h.2.2
     unfold protoK at h2
     rw [if_neg g7, if_neg g8, if_neg g9] at h2
     exact absurd h2 (by decide))
   conv=>whnf
   refine hS.st 0 rfl (lbO rfl) rfl (fun w' hS => ?_)
   conv=>whnf
   refine hS.laX 0 rfl rfl ?_
   repeat' ((conv => whnf); first | refine RetC.mk ?_ | refine NzC.mk (by decide) ?_ | refine rgO ?_ | refine ixO ?_ | refine brD ?_ ?_ <;> (intro) | refine brND ?_ ?_ <;> (intro) | refine brN ?_ ?_ <;> (intro) | refine brI ?_ ?_ <;> (intro))
   exact ⟨⟨noRule, false, rfl, hbad⟩, hS.ext⟩
 have ha : a = sAllow ∨ a = sDeny := .inl h1
 have hb4 : b4 = sOut ∨ b4 = sIn := .inl h5
 conv=>whnf
 refine ixO ?_
 conv=>whnf
 refine Ev.ldc (ownT_cell (j := 2) (hS.get 1 rfl) rfl) ?_
 conv=>whnf
 refine eqS2 ?_
 conv=>whnf
 refine brD (fun h7 => ?_) (fun h7 => ?_)
 · (conv => whnf)
   refine hS.st 2 rfl (lbO rfl) rfl (fun w' hS => ?_)
   have hp : protoK p = 0 := if_pos h7
   replace hS : St w No _ [blk b2 98 (encRule noRule), ownL 9 1 encT (.slice (some ⟨b, 0, none⟩) 4 d) [a, b4, p, n], blk b5 98 (encRule ⟨decide (a = sAllow), decide (b4 = sOut), 0, 0, 0⟩)] := hS
   conv=>whnf
   refine ixO ?_
   conv=>whnf
   refine Ev.ldc (ownT_cell (j := 3) (hS.get 1 rfl) rfl) ?_
   conv=>whnf
   refine (rcutT_ok n 45 (by omega) _).mono ?_
   rintro v w3 ⟨⟨a2, d2, rfl, ho, hf⟩, hx⟩
   replace hS := hS.madeL hx ho hf
   clear hx ho hf
   conv=>whnf
   refine brND (fun h10 => ?_) (fun h10 => ?_)
   · have hbad := ruleOfS_bad2 hw (by omega)
     conv=>whnf
     refine hS.st 0 rfl (lbO rfl) rfl (fun w' hS => ?_)
     conv=>whnf
     refine hS.laX 0 rfl rfl ?_
     repeat' ((conv => whnf); first | refine RetC.mk ?_ | refine NzC.mk (by decide) ?_ | refine rgO ?_ | refine ixO ?_ | refine brD ?_ ?_ <;> (intro) | refine brND ?_ ?_ <;> (intro) | refine brN ?_ ?_ <;> (intro) | refine brI ?_ ?_ <;> (intro))
     exact ⟨⟨noRule, false, rfl, hbad⟩, hS.ext⟩
   obtain ⟨x, y, hxy⟩ := words2 (s := n) (by omega)
   have hcl2 := cutR_mem_len (c := 45) (l := n) (w := x) (by rw [hxy]; exact List.mem_cons_self)
   have hcl3 := cutR_mem_len (c := 45) (l := n) (w := y) (by rw [hxy]; exact List.mem_cons_of_mem _ List.mem_cons_self)
   have hg := ruleOfS_good hw ha hb4 hp (by omega) hxy
   rw [hxy] at hS ⊢
   obtain ⟨bw, rfl⟩ := ownT_some (hS.get 3 rfl) (by simp)
   have hl2 : ([x, y] : List (List UInt8)).length = 2 := rfl
   conv=>whnf
   refine ixO ?_
   conv=>whnf
   refine Ev.ldc (ownT_cell (j := 0) (hS.get 3 rfl) rfl) ?_
   conv=>whnf
   refine (numberOf_ok x 5 (by omega) (by omega) _).mono ?_
   rintro v w4 ⟨rfl, hx⟩
   replace hS := hS.no hx
   clear hx
   conv=>whnf
   refine hS.st 2 rfl (lbO rfl) rfl (fun w' hS => ?_)
   conv=>whnf
   refine ixO ?_
   conv=>whnf
   refine Ev.ldc (ownT_cell (j := 1) (hS.get 3 rfl) rfl) ?_
   conv=>whnf
   refine (numberOf_ok y 5 (by omega) (by omega) _).mono ?_
   rintro v w5 ⟨rfl, hx⟩
   replace hS := hS.no hx
   clear hx
   conv=>whnf
   refine hS.st 2 rfl (lbO rfl) rfl (fun w' hS => ?_)
   generalize hr : (⟨decide (a = sAllow), decide (b4 = sOut), 0, numS x 5, numS y 5⟩ : RuleS) = r at hg
   have hr1 : r.low = numS x 5 := by rw [← hr]
   have hr2 : r.top = numS y 5 := by rw [← hr]
   replace hS : St w No w' [blk b2 98 (encRule noRule), ownL 9 1 encT (.slice (some ⟨b, 0, none⟩) 4 d) [a, b4, p, n], blk b5 98 (encRule r), ownL 9 1 encT (.slice (some ⟨bw, 0, none⟩) 2 d2) [x, y]] := by
     rw [← hr]
     exact hS
   rw [← hr1, ← hr2] at hg
   clear hr1 hr2
   have hne := hS.ne 2 0 rfl rfl (by decide)
   conv=>whnf
   (refine drawS tabOk mixed [] ((· = b2)) [0, 1, 2, 3, 4, 5, 6, 7, 8, 9, 10] (by kernel_rfl) ?_; rintro w1 rfl; replace hS := hS.drew)
   have hK := hS.ref (· = b2)
   conv=>whnf
   refine hS.laXF 2 rfl rfl hne ?_
   conv=>whnf
   refine hS.ldF 2 rfl rfl hne ?_
   conv=>whnf
   refine brD (fun h11 => ?_) (fun h11 => ?_)
   · (conv => whnf)
     refine hS.ldF 2 rfl rfl hne ?_
     conv=>whnf
     refine hS.stK hK 0 rfl (lbO rfl) rfl rfl (fun w' hK hS => KeepC.mk hK ?_)
     replace hS : St w No w' [blk b2 98 (encRule r), ownL 9 1 encT (.slice (some ⟨b, 0, none⟩) 4 d) [a, b4, p, n], blk b5 98 (encRule r), ownL 9 1 encT (.slice (some ⟨bw, 0, none⟩) 2 d2) [x, y]] := hS
     conv=>whnf
     refine hS.laX 0 rfl rfl ?_
     repeat' ((conv => whnf); first | refine RetC.mk ?_ | refine NzC.mk (by decide) ?_ | refine rgO ?_ | refine ixO ?_ | refine brD ?_ ?_ <;> (intro) | refine brND ?_ ?_ <;> (intro) | refine brN ?_ ?_ <;> (intro) | refine brI ?_ ?_ <;> (intro))
     refine ⟨⟨r, _, rfl, ?_⟩, hS.ext⟩
     rw [hg]
     by_cases h12 : 0 ≤ r.top
     · rw [if_pos ⟨by omega, h12⟩, if_pos (decide_eq_true (by omega))]
     · rw [if_neg (fun h => h12 h.2), if_neg (fun h => h12 (of_decide_eq_true h))]
   · (conv => whnf)
     refine hS.stK hK 0 rfl (lbO rfl) rfl rfl (fun w' hK hS => KeepC.mk hK ?_)
     replace hS : St w No w' [blk b2 98 (encRule r), ownL 9 1 encT (.slice (some ⟨b, 0, none⟩) 4 d) [a, b4, p, n], blk b5 98 (encRule r), ownL 9 1 encT (.slice (some ⟨bw, 0, none⟩) 2 d2) [x, y]] := hS
     conv=>whnf
     refine hS.laX 0 rfl rfl ?_
     repeat' ((conv => whnf); first | refine RetC.mk ?_ | refine NzC.mk (by decide) ?_ | refine rgO ?_ | refine ixO ?_ | refine brD ?_ ?_ <;> (intro) | refine brND ?_ ?_ <;> (intro) | refine brN ?_ ?_ <;> (intro) | refine brI ?_ ?_ <;> (intro))
     refine ⟨⟨r, _, rfl, ?_⟩, hS.ext⟩
     rw [hg, if_neg (fun h => by omega), if_neg (by simp)]
 conv=>whnf
 refine eqS2 ?_
 conv=>whnf
 refine brD (fun h8 => ?_) (fun h8 => ?_)
 · (conv => whnf)
   refine hS.st 2 rfl (lbO rfl) rfl (fun w' hS => ?_)
   have hp : protoK p = 1 := (if_neg h7).trans (if_pos h8)
   replace hS : St w No _ [blk b2 98 (encRule noRule), ownL 9 1 encT (.slice (some ⟨b, 0, none⟩) 4 d) [a, b4, p, n], blk b5 98 (encRule ⟨decide (a = sAllow), decide (b4 = sOut), 1, 0, 0⟩)] := hS
   conv=>whnf
   refine ixO ?_
   conv=>whnf
   refine Ev.ldc (ownT_cell (j := 3) (hS.get 1 rfl) rfl) ?_
   conv=>whnf
   refine (rcutT_ok n 45 (by omega) _).mono ?_
   rintro v w3 ⟨⟨a2, d2, rfl, ho, hf⟩, hx⟩
   replace hS := hS.madeL hx ho hf
   clear hx ho hf
   conv=>whnf
   refine brND (fun h10 => ?_) (fun h10 => ?_)
   · have hbad := ruleOfS_bad2 hw (by omega)
     conv=>whnf
     refine hS.st 0 rfl (lbO rfl) rfl (fun w' hS => ?_)
     conv=>whnf
     refine hS.laX 0 rfl rfl ?_
     repeat' ((conv => whnf); first | refine RetC.mk ?_ | refine NzC.mk (by decide) ?_ | refine rgO ?_ | refine ixO ?_ | refine brD ?_ ?_ <;> (intro) | refine brND ?_ ?_ <;> (intro) | refine brN ?_ ?_ <;> (intro) | refine brI ?_ ?_ <;> (intro))
     exact ⟨⟨noRule, false, rfl, hbad⟩, hS.ext⟩
   obtain ⟨x, y, hxy⟩ := words2 (s := n) (by omega)
   have hcl2 := cutR_mem_len (c := 45) (l := n) (w := x) (by rw [hxy]; exact List.mem_cons_self)
   have hcl3 := cutR_mem_len (c := 45) (l := n) (w := y) (by rw [hxy]; exact List.mem_cons_of_mem _ List.mem_cons_self)
   have hg := ruleOfS_good hw ha hb4 hp (by omega) hxy
   rw [hxy] at hS ⊢
   obtain ⟨bw, rfl⟩ := ownT_some (hS.get 3 rfl) (by simp)
   have hl2 : ([x, y] : List (List UInt8)).length = 2 := rfl
   conv=>whnf
   refine ixO ?_
   conv=>whnf
   refine Ev.ldc (ownT_cell (j := 0) (hS.get 3 rfl) rfl) ?_
   conv=>whnf
   refine (numberOf_ok x 5 (by omega) (by omega) _).mono ?_
   rintro v w4 ⟨rfl, hx⟩
   replace hS := hS.no hx
   clear hx
   conv=>whnf
   refine hS.st 2 rfl (lbO rfl) rfl (fun w' hS => ?_)
   conv=>whnf
   refine ixO ?_
   conv=>whnf
   refine Ev.ldc (ownT_cell (j := 1) (hS.get 3 rfl) rfl) ?_
   conv=>whnf
   refine (numberOf_ok y 5 (by omega) (by omega) _).mono ?_
   rintro v w5 ⟨rfl, hx⟩
   replace hS := hS.no hx
   clear hx
   conv=>whnf
   refine hS.st 2 rfl (lbO rfl) rfl (fun w' hS => ?_)
   generalize hr : (⟨decide (a = sAllow), decide (b4 = sOut), 1, numS x 5, numS y 5⟩ : RuleS) = r at hg
   have hr1 : r.low = numS x 5 := by rw [← hr]
   have hr2 : r.top = numS y 5 := by rw [← hr]
   replace hS : St w No w' [blk b2 98 (encRule noRule), ownL 9 1 encT (.slice (some ⟨b, 0, none⟩) 4 d) [a, b4, p, n], blk b5 98 (encRule r), ownL 9 1 encT (.slice (some ⟨bw, 0, none⟩) 2 d2) [x, y]] := by
     rw [← hr]
     exact hS
   rw [← hr1, ← hr2] at hg
   clear hr1 hr2
   have hne := hS.ne 2 0 rfl rfl (by decide)
   conv=>whnf
   (refine drawS tabOk mixed [] ((· = b2)) [0, 1, 2, 3, 4, 5, 6, 7, 8, 9, 10] (by kernel_rfl) ?_; rintro w1 rfl; replace hS := hS.drew)
   have hK := hS.ref (· = b2)
   conv=>whnf
   refine hS.laXF 2 rfl rfl hne ?_
   conv=>whnf
   refine hS.ldF 2 rfl rfl hne ?_
   conv=>whnf
   refine brD (fun h11 => ?_) (fun h11 => ?_)
   · (conv => whnf)
     refine hS.ldF 2 rfl rfl hne ?_
     conv=>whnf
     refine hS.stK hK 0 rfl (lbO rfl) rfl rfl (fun w' hK hS => KeepC.mk hK ?_)
     replace hS : St w No w' [blk b2 98 (encRule r), ownL 9 1 encT (.slice (some ⟨b, 0, none⟩) 4 d) [a, b4, p, n], blk b5 98 (encRule r), ownL 9 1 encT (.slice (some ⟨bw, 0, none⟩) 2 d2) [x, y]] := hS
     conv=>whnf
     refine hS.laX 0 rfl rfl ?_
     repeat' ((conv => whnf); first | refine RetC.mk ?_ | refine NzC.mk (by decide) ?_ | refine rgO ?_ | refine ixO ?_ | refine brD ?_ ?_ <;> (intro) | refine brND ?_ ?_ <;> (intro) | refine brN ?_ ?_ <;> (intro) | refine brI ?_ ?_ <;> (intro))
     refine ⟨⟨r, _, rfl, ?_⟩, hS.ext⟩
     rw [hg]
     by_cases h12 : 0 ≤ r.top
     · rw [if_pos ⟨by omega, h12⟩, if_pos (decide_eq_true (by omega))]
     · rw [if_neg (fun h => h12 h.2), if_neg (fun h => h12 (of_decide_eq_true h))]
   · (conv => whnf)
     refine hS.stK hK 0 rfl (lbO rfl) rfl rfl (fun w' hK hS => KeepC.mk hK ?_)
     replace hS : St w No w' [blk b2 98 (encRule r), ownL 9 1 encT (.slice (some ⟨b, 0, none⟩) 4 d) [a, b4, p, n], blk b5 98 (encRule r), ownL 9 1 encT (.slice (some ⟨bw, 0, none⟩) 2 d2) [x, y]] := hS
     conv=>whnf
     refine hS.laX 0 rfl rfl ?_
     repeat' ((conv => whnf); first | refine RetC.mk ?_ | refine NzC.mk (by decide) ?_ | refine rgO ?_ | refine ixO ?_ | refine brD ?_ ?_ <;> (intro) | refine brND ?_ ?_ <;> (intro) | refine brN ?_ ?_ <;> (intro) | refine brI ?_ ?_ <;> (intro))
     refine ⟨⟨r, _, rfl, ?_⟩, hS.ext⟩
     rw [hg, if_neg (fun h => by omega), if_neg (by simp)]
 conv=>whnf
 refine eqS2 ?_
 conv=>whnf
 refine brD (fun h9 => ?_) (fun h9 => ?_)
 · (conv => whnf)
   refine hS.st 2 rfl (lbO rfl) rfl (fun w' hS => ?_)
   have hp : protoK p = 2 := (if_neg h7).trans ((if_neg h8).trans (if_pos h9))
   replace hS : St w No _ [blk b2 98 (encRule noRule), ownL 9 1 encT (.slice (some ⟨b, 0, none⟩) 4 d) [a, b4, p, n], blk b5 98 (encRule ⟨decide (a = sAllow), decide (b4 = sOut), 2, 0, 0⟩)] := hS
   conv=>whnf
   refine ixO ?_
   conv=>whnf
   refine Ev.ldc (ownT_cell (j := 3) (hS.get 1 rfl) rfl) ?_
   conv=>whnf
   refine (rcutT_ok n 45 (by omega) _).mono ?_
   rintro v w3 ⟨⟨a2, d2, rfl, ho, hf⟩, hx⟩
   replace hS := hS.madeL hx ho hf
   clear hx ho hf
   conv=>whnf
   refine brND (fun h10 => ?_) (fun h10 => ?_)
   · have hbad := ruleOfS_bad2 hw (by omega)
     conv=>whnf
     refine hS.st 0 rfl (lbO rfl) rfl (fun w' hS => ?_)
     conv=>whnf
     refine hS.laX 0 rfl rfl ?_
     repeat' ((conv => whnf); first | refine RetC.mk ?_ | refine NzC.mk (by decide) ?_ | refine rgO ?_ | refine ixO ?_ | refine brD ?_ ?_ <;> (intro) | refine brND ?_ ?_ <;> (intro) | refine brN ?_ ?_ <;> (intro) | refine brI ?_ ?_ <;> (intro))
     exact ⟨⟨noRule, false, rfl, hbad⟩, hS.ext⟩
   obtain ⟨x, y, hxy⟩ := words2 (s := n) (by omega)
   have hcl2 := cutR_mem_len (c := 45) (l := n) (w := x) (by rw [hxy]; exact List.mem_cons_self)
   have hcl3 := cutR_mem_len (c := 45) (l := n) (w := y) (by rw [hxy]; exact List.mem_cons_of_mem _ List.mem_cons_self)
   have hg := ruleOfS_good hw ha hb4 hp (by omega) hxy
   rw [hxy] at hS ⊢
   obtain ⟨bw, rfl⟩ := ownT_some (hS.get 3 rfl) (by simp)
   have hl2 : ([x, y] : List (List UInt8)).length = 2 := rfl
   conv=>whnf
   refine ixO ?_
   conv=>whnf
   refine Ev.ldc (ownT_cell (j := 0) (hS.get 3 rfl) rfl) ?_
   conv=>whnf
   refine (numberOf_ok x 5 (by omega) (by omega) _).mono ?_
   rintro v w4 ⟨rfl, hx⟩
   replace hS := hS.no hx
   clear hx
   conv=>whnf
   refine hS.st 2 rfl (lbO rfl) rfl (fun w' hS => ?_)
   conv=>whnf
   refine ixO ?_
   conv=>whnf
   refine Ev.ldc (ownT_cell (j := 1) (hS.get 3 rfl) rfl) ?_
   conv=>whnf
   refine (numberOf_ok y 5 (by omega) (by omega) _).mono ?_
   rintro v w5 ⟨rfl, hx⟩
   replace hS := hS.no hx
   clear hx
   conv=>whnf
   refine hS.st 2 rfl (lbO rfl) rfl (fun w' hS => ?_)
   generalize hr : (⟨decide (a = sAllow), decide (b4 = sOut), 2, numS x 5, numS y 5⟩ : RuleS) = r at hg
   have hr1 : r.low = numS x 5 := by rw [← hr]
   have hr2 : r.top = numS y 5 := by rw [← hr]
   replace hS : St w No w' [blk b2 98 (encRule noRule), ownL 9 1 encT (.slice (some ⟨b, 0, none⟩) 4 d) [a, b4, p, n], blk b5 98 (encRule r), ownL 9 1 encT (.slice (some ⟨bw, 0, none⟩) 2 d2) [x, y]] := by
     rw [← hr]
     exact hS
   rw [← hr1, ← hr2] at hg
   clear hr1 hr2
   have hne := hS.ne 2 0 rfl rfl (by decide)
   conv=>whnf
   (refine drawS tabOk mixed [] ((· = b2)) [0, 1, 2, 3, 4, 5, 6, 7, 8, 9, 10] (by kernel_rfl) ?_; rintro w1 rfl; replace hS := hS.drew)
   have hK := hS.ref (· = b2)
   conv=>whnf
   refine hS.laXF 2 rfl rfl hne ?_
   conv=>whnf
   refine hS.ldF 2 rfl rfl hne ?_
   conv=>whnf
   refine brD (fun h11 => ?_) (fun h11 => ?_)
   · (conv => whnf)
     refine hS.ldF 2 rfl rfl hne ?_
     conv=>whnf
     refine hS.stK hK 0 rfl (lbO rfl) rfl rfl (fun w' hK hS => KeepC.mk hK ?_)
     replace hS : St w No w' [blk b2 98 (encRule r), ownL 9 1 encT (.slice (some ⟨b, 0, none⟩) 4 d) [a, b4, p, n], blk b5 98 (encRule r), ownL 9 1 encT (.slice (some ⟨bw, 0, none⟩) 2 d2) [x, y]] := hS
     conv=>whnf
     refine hS.laX 0 rfl rfl ?_
     repeat' ((conv => whnf); first | refine RetC.mk ?_ | refine NzC.mk (by decide) ?_ | refine rgO ?_ | refine ixO ?_ | refine brD ?_ ?_ <;> (intro) | refine brND ?_ ?_ <;> (intro) | refine brN ?_ ?_ <;> (intro) | refine brI ?_ ?_ <;> (intro))
     refine ⟨⟨r, _, rfl, ?_⟩, hS.ext⟩
     rw [hg]
     by_cases h12 : 0 ≤ r.top
     · rw [if_pos ⟨by omega, h12⟩, if_pos (decide_eq_true (by omega))]
     · rw [if_neg (fun h => h12 h.2), if_neg (fun h => h12 (of_decide_eq_true h))]
   · (conv => whnf)
     refine hS.stK hK 0 rfl (lbO rfl) rfl rfl (fun w' hK hS => KeepC.mk hK ?_)
     replace hS : St w No w' [blk b2 98 (encRule r), ownL 9 1 encT (.slice (some ⟨b, 0, none⟩) 4 d) [a, b4, p, n], blk b5 98 (encRule r), ownL 9 1 encT (.slice (some ⟨bw, 0, none⟩) 2 d2) [x, y]] := hS
     conv=>whnf
     refine hS.laX 0 rfl rfl ?_
     repeat' ((conv => whnf); first | refine RetC.mk ?_ | refine NzC.mk (by decide) ?_ | refine rgO ?_ | refine ixO ?_ | refine brD ?_ ?_ <;> (intro) | refine brND ?_ ?_ <;> (intro) | refine brN ?_ ?_ <;> (intro) | refine brI ?_ ?_ <;> (intro))
     refine ⟨⟨r, _, rfl, ?_⟩, hS.ext⟩
     rw [hg, if_neg (fun h => by omega), if_neg (by simp)]
 have g7 : ¬ p = sAny := h7
 have g8 : ¬ p = sUdp := h8
 have g9 : ¬ p = sTcp := h9
 have hbad : ruleOfS s = none := ruleOfS_bad hw (fun h => by
   have h2 := h.2.2
   unfold protoK at h2
   rw [if_neg g7, if_neg g8, if_neg g9] at h2
   exact absurd h2 (by decide))
 conv=>whnf
 refine hS.st 0 rfl (lbO rfl) rfl (fun w' hS => ?_)
 conv=>whnf
 refine hS.laX 0 rfl rfl ?_
 repeat' ((conv => whnf); first | refine RetC.mk ?_ | refine NzC.mk (by decide) ?_ | refine rgO ?_ | refine ixO ?_ | refine brD ?_ ?_ <;> (intro) | refine brND ?_ ?_ <;> (intro) | refine brN ?_ ?_ <;> (intro) | refine brI ?_ ?_ <;> (intro))
 exact ⟨⟨noRule, false, rfl, hbad⟩, hS.ext⟩
end Go.Proofs.YtogjajjdaoihdaaGreatDoor

namespace Go.Proofs.YtogjajjdaoihdaaGreatDoor
set_option maxRecDepth 20000
open Go Ev
theorem Ev.index_run1 {P : Program} {t e : TypeId} {l : List Value} {k : Nat} {x : Value} {i : Int} (hu : P.underlying t = some (.array l.length e)) (hi : (P.info? e).isSome = true) (hd : ∃ d, P.underlying e = some d) (hc : P.cellsOf e = 1) (hg : aggB P e = false) (hx : l[k]? = some x) (hk : i = (k : Int)) (w : World) :
   (Instr.index t (.agg l.toArray) (.int .i64 i)).run P w = .ok x w := by
 subst hk
 have hlt := (List.getElem?_eq_some_iff.1 hx).1
 have h1 := cellsOf_run hi w
 have h2 := part_run1 (P := P) (t := e) (cs := l) (off := k) hd hx hg w
 rw [hc] at h1
 simp [Instr.index, underlying, hu, asIntOf, asAgg, h1, h2, hlt]
theorem ownT_cap {w : World} {a : Option Addr} {n c : Nat} {xs : List (List UInt8)} (h : (ownL 9 1 encT (.slice a n c) xs).holds w) : n ≤ c := by
 obtain ⟨h1, ⟨h2, h3⟩ | ⟨g, cap, cur, h2, h3, h4, h5, h6, h7, h8⟩⟩ := h
 · cases h2
   exact Nat.le_refl _
 · cases h2
   assumption
def NamesV (w : World) : Prop := CellsAt w 11 0 (fnames.map fun l => .string (bs l))
theorem NamesV.no {w w' : World} (h : NamesV w) (hx : Ext No w w') : NamesV w' := hx.cells h id
theorem names_of {L : List (String × DataW Unit)} {W : World} (hl : laidMetH Tryz.prog L W) (hm : ("twinrampart/packet.names", .agg (fnames.map fun z => .lit (.string z))) ∈ L) : NamesV W := by
 obtain ⟨ps, ⟨g', t', cs, fuel, p, q, hg', ht', hvar, hd, _, _⟩, _⟩ := laid_one hl hm rfl
 have hg : Tryz.prog.globalNamed "twinrampart/packet.names" = some 11 := by kernel_rfl
 have hty : (Tryz.prog.globals[11]?).map (·.type) = some 188 := by kernel_rfl
 obtain rfl := Option.some.inj (hg.symm.trans hg')
 obtain rfl := Option.some.inj (hty.symm.trans ht')
 have hc := strs_of_trod Tryz.underlying188 Tryz.underlying9 (by kernel_rfl) (by kernel_rfl) hd
 intro i v hv
 have := World.var?_cell hg hvar i
 rw [Nat.zero_add, this, ← Array.getElem?_toList, hc]
 exact hv
theorem fbit_and : ∀ n, n < 16 → ∀ i, i < 4 → (band ((n / 2 ^ i : Nat) : Int) 1 == 1) = fbit (n : Nat) i := by decide +kernel
theorem pflags_ok (n : Nat) (hn : n < 16) (w : World) (hN : NamesV w) : CallC Tryz.prog 42 #[.int .i64 (n : Int)] w fun v w' => v = .string (bs (ftext n)) ∧ Ext No w w' := by
 refine fn_intro tabOk Tryz.func42 (by kernel_rfl) rfl Tryz.ntmps42 (lbO rfl) ?_
 have hS := St.start w No
 have hS := hS.add (ownL_local (e := 9) (enc := encT) (sz := 1) (v := .slice none 0 0) (xs := [])) (own_nil _ _ _) (by simp [ownL, own, Value.ownBlock]) (by simp [ownL, own, Value.ownBlock])
 conv=>whnf
 refine hS.lar (l := fnames.map fun l => .string (bs l)) rfl hN id ?_
 conv=>whnf
 refine loopR tabOk (fun σ w' q => ∃ (k : Nat) (a : Option Addr) (m c : Nat), σ = [(7, .int .i64 (k : Int)), (6, .agg (fnames.map fun l => .string (bs l)).toArray), (3, .slice a m c), (0, .int .i64 (n : Int))] ∧ q = 4 - k ∧ k ≤ 4 ∧ (fwords n k).length = m ∧ (m = 0 → a = none) ∧ St w No w' [ownL 9 1 encT (.slice a m c) (fwords n k)])
   (σ' := [(7, .int .i64 ((0 : Nat) : Int)), (6, .agg (fnames.map fun l => .string (bs l)).toArray), (3, .slice none 0 0), (0, .int .i64 (n : Int))]) (n := 4) ⟨rfl, rfl, rfl, rfl, trivial⟩ ⟨0, none, 0, 0, rfl, rfl, Nat.zero_le _, rfl, fun _ => rfl, hS⟩ ?_
 clear hS
 rintro _ w1 q ⟨k, a, m, c, rfl, rfl, hk, hm, ha, hS⟩
 have hm4 := fwords_len n k
 conv=>whnf
 refine brD (fun h3 => ?_) (fun h3 => ?_)
 · have hk4 : k < 4 := by omega
   have hst := fwords_step n k
   have hat : (fnames.map fun l => Value.string (bs l))[k]? = some (.string (bs (fnames.getD k []))) := by
     rw [List.getElem?_map, List.getD_eq_getElem?_getD, List.getElem?_eq_getElem (show k < fnames.length from hk4)]
     rfl
   conv=>whnf
   refine PureC.of (index_run1 (l := fnames.map fun l => .string (bs l)) (k := k) Tryz.underlying188 (by kernel_rfl) ⟨_, Tryz.underlying9⟩ (by kernel_rfl) (by kernel_rfl) hat rfl) ?_
   conv=>whnf
   refine shrN (n := k) rfl (by show k ≤ 64; omega) ?_
   have hb := fbit_and n hn k hk4
   conv=>whnf
   rw [hb]
   refine brI (fun h4 => ?_) (fun h4 => ?_)
   · rw [if_pos h4] at hst
     conv=>whnf
     refine hS.lit (cs := encT (fnames.getD k [])) Tryz.underlying22 (sz := 1) (by kernel_rfl) (z := .string (bs [])) (by kernel_rfl) rfl rfl (by rfl) (fun bl w' hbl hS => ?_)
     have hx : Slc w' 1 encT (fun _ => True) (some ⟨bl, 0, none⟩) 1 [fnames.getD k []] := Slc.of_blk codT (hS.blk 1 rfl) rfl (by decide) (fun _ _ => trivial) rfl
     conv=>whnf
     refine hS.appS codT 0 Tryz.underlying22 (bytes := 16) (by kernel_rfl) (z := .string (bs [])) (by kernel_rfl) rfl rfl hx (by unfold maxLen; omega) (by omega) (fun a2 c2 w' hS => ?_)
     rw [hm] at hS ⊢
     replace hS : St w No w' [ownL 9 1 encT (.slice a2 (m + 1) c2) (fwords n k ++ [fnames.getD k []]), blk bl 9 (encT (fnames.getD k []))] := hS
     replace hS := hS.keep 1
     rw [← hst] at hS
     conv=>whnf
     refine rgO ?_
     conv=>whnf
     refine LoopE.mk ⟨_, [(7, .int .i64 ((k + 1 : Nat) : Int)), (6, _), (3, _), (0, _)], ?_, ⟨rfl, rfl, rfl, rfl, trivial⟩, ⟨k + 1, a2, m + 1, c2, rfl, rfl, by omega, by rw [hst, List.length_append, hm]; rfl, fun h => absurd h (by omega), hS⟩⟩
     omega
   · rw [if_neg (by rw [h4]; decide), List.append_nil] at hst
     conv=>whnf
     refine rgO ?_
     conv=>whnf
     refine LoopE.mk ⟨_, [(7, .int .i64 ((k + 1 : Nat) : Int)), (6, _), (3, _), (0, _)], ?_, ⟨rfl, rfl, rfl, rfl, trivial⟩, ⟨k + 1, a, m, c, rfl, rfl, by omega, by rw [hst, hm], ha, by rw [hst]; exact hS⟩⟩
     omega
 · obtain rfl : k = 4 := by omega
   have hj := fjoin_len n (Nat.le_refl 4)
   by_cases hz : fwords n 4 = []
   · have hm0 : m = 0 := by rw [← hm, hz]; rfl
     obtain rfl := ha hm0
     repeat' ((conv => whnf); first | refine RetC.mk ?_ | refine NzC.mk (by decide) ?_ | refine rgO ?_ | refine ixO ?_ | refine brD ?_ ?_ <;> (intro) | refine brND ?_ ?_ <;> (intro) | refine brN ?_ ?_ <;> (intro) | refine brI ?_ ?_ <;> (intro))
     unfold ftext
     rw [if_pos hz]
     exact ⟨rfl, hS.ext⟩
   · obtain ⟨b, rfl⟩ := ownT_some (hS.get 0 rfl) hz
     have hpos : 0 < m := by
       rw [← hm]
       exact List.length_pos_iff.2 hz
     have hcap := ownT_cap (hS.get 0 rfl)
     have hcells : CellsAt w1 b 0 ((fwords n 4).map fun l => .string (bs l)) := by
       have := own_cells codT (hS.get 0 rfl)
       rwa [flat_encT] at this
     conv=>whnf
     refine (join_ok (fwords n 4) [43] _ hm hcells hpos hcap (by omega) (by omega)).mono ?_
     rintro v w2 ⟨rfl, hx⟩
     replace hS := hS.no hx
     repeat' ((conv => whnf); first | refine RetC.mk ?_ | refine NzC.mk (by decide) ?_ | refine rgO ?_ | refine ixO ?_ | refine brD ?_ ?_ <;> (intro) | refine brND ?_ ?_ <;> (intro) | refine brN ?_ ?_ <;> (intro) | refine brI ?_ ?_ <;> (intro))
     unfold ftext
     rw [if_neg hz]
     exact ⟨rfl, hS.ext⟩
theorem endText_ok (a p : Int) (h1 : I64 a) (h2 : I64 p) (w : World) (ht : Pow10 w) : CallC Tryz.prog 86 #[.agg #[.int .i64 a, .int .i64 p]] w fun v w' => v = .string (bs (endT a p)) ∧ Ext No w w' := by
 have e1 := Lib.itoa_length_le a h1.1 h1.2
 have e2 := Lib.itoa_length_le p h2.1 h2.2
 refine fn_intro tabOk Tryz.func86 (by kernel_rfl) rfl Tryz.ntmps86 (lbO rfl) ?_
 have hS := St.start w No
 conv=>whnf
 refine hS.new (fun b w' hb hS => ?_)
 replace hS : St w No w' [blk b 39 [.int .i64 a, .int .i64 p]] := hS
 conv=>whnf
 (refine drawS tabOk mixed [] (No) [0, 1, 4, 5, 2, 3, 6, 7, 8] (by kernel_rfl) ?_; rintro w1 rfl; replace hS := hS.drew)
 have hK := hS.ref No
 conv=>whnf
 refine hS.ldF 0 rfl rfl id ?_
 conv=>whnf
 refine hS.ldF 0 rfl rfl id ?_
 conv=>whnf
 refine (itoa_ok a h1.1 h1.2 _ (ht.no hS.ext)).mono ?_
 rintro v w2 ⟨rfl, hx⟩
 replace hS := hS.no hx
 replace hK := hK.trans hx
 refine KeepC.mk hK ?_
 conv=>whnf
 refine addS (b := [58]) (by simp; omega) ?_
 conv=>whnf
 refine (itoa_ok p h2.1 h2.2 _ (ht.no hS.ext)).mono ?_
 rintro v w3 ⟨rfl, hx⟩
 replace hS := hS.no hx
 replace hK := hK.trans hx
 refine KeepC.mk hK ?_
 conv=>whnf
 refine addS (by simp; omega) ?_
 repeat' ((conv => whnf); first | refine RetC.mk ?_ | refine NzC.mk (by decide) ?_ | refine rgO ?_ | refine ixO ?_ | refine brD ?_ ?_ <;> (intro) | refine brND ?_ ?_ <;> (intro) | refine brN ?_ ?_ <;> (intro) | refine brI ?_ ?_ <;> (intro))
 exact ⟨rfl, hS.ext⟩
end Go.Proofs.YtogjajjdaoihdaaGreatDoor

namespace Go.Proofs.YtogjajjdaoihdaaGreatDoor
set_option maxRecDepth 20000
open Go Ev
theorem ptextP_ok {E : Nat → Addr} {q : Nat} (p : PktS) (w : World) (hE : Errs w E q [2, 3]) (ht : Pow10 w) (hN : NamesV w) :
   CallC Tryz.prog 43 #[.agg (encPkt p).toArray] w fun v w' => v = .tuple #[.string (bs (if p.err = 0 then p.text else [])), errV E p.err] ∧ Ext No w w' := by
 refine fn_intro tabOk Tryz.func43 (by kernel_rfl) rfl Tryz.ntmps43 (lbO rfl) ?_
 have hS := St.start w No
 conv=>whnf
 refine hS.new (fun b w' hb hS => ?_)
 replace hS : St w No w' [blk b 41 (encPkt p)] := hS
 conv=>whnf
 refine hS.laX 0 rfl rfl ?_
 conv=>whnf
 refine (pcheck_ok p _ (hE.ext hS.ext fun _ h => h.elim)).mono ?_
 rintro v w2 ⟨rfl, hx⟩
 replace hS := hS.no hx
 clear hx
 cases hpe : p.err with
 | succ j =>
   rw [if_neg (by omega)]
   repeat' ((conv => whnf); first | refine RetC.mk ?_ | refine NzC.mk (by decide) ?_ | refine rgO ?_ | refine ixO ?_ | refine brD ?_ ?_ <;> (intro) | refine brND ?_ ?_ <;> (intro) | refine brN ?_ ?_ <;> (intro) | refine brI ?_ ?_ <;> (intro))
   exact ⟨rfl, hS.ext⟩
 | zero =>
   rw [if_pos rfl]
   obtain ⟨f1, f2, f3, f4, f5⟩ := err_facts hpe
   have g2 := endB_facts f2
   have g3 := endB_facts f3
   obtain ⟨pr, sa, sp, da, dp, fl⟩ := p
   dsimp only at f1 f4 f5 g2 g3
   have i1 : I64 sa := ⟨by omega, by omega⟩
   have i2 : I64 sp := ⟨by omega, by omega⟩
   have i3 : I64 da := ⟨by omega, by omega⟩
   have i4 : I64 dp := ⟨by omega, by omega⟩
   have l1 := endT_len sa sp i1 i2
   have l2 := endT_len da dp i3 i4
   unfold PktS.text
   conv=>whnf
   refine hS.ld 0 rfl rfl ?_
   conv=>whnf
   refine brD (fun h1 => ?_) (fun h1 => ?_)
   · rw [if_pos (by exact h1)]
     conv=>whnf
     (refine drawS tabOk mixed [] (No) [0, 1, 5, 6, 2, 3, 4, 7, 8, 9, 10] (by kernel_rfl) ?_; rintro w1 rfl; replace hS := hS.drew)
     have hK := hS.ref No
     conv=>whnf
     refine hS.laXF 0 rfl rfl id ?_
     conv=>whnf
     refine hS.laXF 0 rfl rfl id ?_
     conv=>whnf
     refine (endText_ok sa sp i1 i2 _ (ht.no hS.ext)).mono ?_
     rintro v w3 ⟨rfl, hx⟩
     replace hS := hS.no hx
     replace hK := hK.trans hx
     refine KeepC.mk hK ?_
     clear hx
     conv=>whnf
     refine addS (a := [117, 100, 112, 32]) (by simp; omega) ?_
     conv=>whnf
     refine addS (b := [32]) (by simp; omega) ?_
     conv=>whnf
     refine (endText_ok da dp i3 i4 _ (ht.no hS.ext)).mono ?_
     rintro v w4 ⟨rfl, hx⟩
     replace hS := hS.no hx
     replace hK := hK.trans hx
     refine KeepC.mk hK ?_
     clear hx
     conv=>whnf
     refine addS (by simp; omega) ?_
     repeat' ((conv => whnf); first | refine RetC.mk ?_ | refine NzC.mk (by decide) ?_ | refine rgO ?_ | refine ixO ?_ | refine brD ?_ ?_ <;> (intro) | refine brND ?_ ?_ <;> (intro) | refine brN ?_ ?_ <;> (intro) | refine brI ?_ ?_ <;> (intro))
     exact ⟨rfl, hS.ext⟩
   · rw [if_neg (by exact h1)]
     obtain ⟨fn, rfl⟩ : ∃ n : Nat, fl = n := ⟨fl.toNat, by omega⟩
     have l3 := ftext_len (fn : Int)
     conv=>whnf
     (refine drawS tabOk mixed [] (No) [0, 1, 5, 6, 10, 11, 2, 3, 4, 7, 8, 9, 12, 13, 14, 15] (by kernel_rfl) ?_; rintro w1 rfl; replace hS := hS.drew)
     have hK := hS.ref No
     conv=>whnf
     refine hS.laXF 0 rfl rfl id ?_
     conv=>whnf
     refine hS.laXF 0 rfl rfl id ?_
     conv=>whnf
     refine hS.ldF 0 rfl rfl id ?_
     conv=>whnf
     refine (endText_ok sa sp i1 i2 _ (ht.no hS.ext)).mono ?_
     rintro v w3 ⟨rfl, hx⟩
     replace hS := hS.no hx
     replace hK := hK.trans hx
     refine KeepC.mk hK ?_
     clear hx
     conv=>whnf
     refine addS (a := [116, 99, 112, 32]) (by simp; omega) ?_
     conv=>whnf
     refine addS (b := [32]) (by simp; omega) ?_
     conv=>whnf
     refine (endText_ok da dp i3 i4 _ (ht.no hS.ext)).mono ?_
     rintro v w4 ⟨rfl, hx⟩
     replace hS := hS.no hx
     replace hK := hK.trans hx
     refine KeepC.mk hK ?_
     clear hx
     conv=>whnf
     refine addS (by simp; omega) ?_
     conv=>whnf
     refine addS (b := [32]) (by simp; omega) ?_
     conv=>whnf
     refine (pflags_ok fn (by omega) _ (hN.no hS.ext)).mono ?_
     rintro v w5 ⟨rfl, hx⟩
     replace hS := hS.no hx
     replace hK := hK.trans hx
     refine KeepC.mk hK ?_
     clear hx
     conv=>whnf
     refine addS (by simp; omega) ?_
     repeat' ((conv => whnf); first | refine RetC.mk ?_ | refine NzC.mk (by decide) ?_ | refine rgO ?_ | refine ixO ?_ | refine brD ?_ ?_ <;> (intro) | refine brND ?_ ?_ <;> (intro) | refine brN ?_ ?_ <;> (intro) | refine brI ?_ ?_ <;> (intro))
     exact ⟨rfl, hS.ext⟩
def PktS.bytes (p : PktS) : List UInt8 := numB p.proto.toNat 1 ++ (numB p.sa.toNat 4 ++ numB p.sp.toNat 2) ++ (numB p.da.toNat 4 ++ numB p.dp.toNat 2) ++ numB p.flags.toNat 1
end Go.Proofs.YtogjajjdaoihdaaGreatDoor

namespace Go.Proofs.YtogjajjdaoihdaaGreatDoor
set_option maxRecDepth 20000
open Go Ev
end Go.Proofs.YtogjajjdaoihdaaGreatDoor

namespace Go.Proofs.YtogjajjdaoihdaaGreatDoor
set_option maxRecDepth 20000
open Go Ev
theorem Ev.drawB {P : Program} {τ : Tab} {N : Nat} {σ : Slots} {w : World} {b : Nat} {t : TypeId} {cs : List Value} (hτ : TabOk P τ) (hm : P.follows .mixedOrders = true) (hb : Blk w b t cs) {ops : Array Oper} {Q : Slots → World → Prop} (order : List Nat)
   (hok : (Region.noSelect ops && Nat.beq order.length ops.size && orderOk ops [] order (Array.replicate ops.size false)) = true)
   (h : ∀ w1, w1 = { w with drawn := w.drawn + 1 } → Blk w1 b t cs → evDrawR P τ N ops [] (fun w' => Ext (· = b) w1 w' ∧ Blk w' b t cs) order Q σ w1) : DrawC P τ N ops Q σ w :=
 drawR hτ hm [] (fun w1 w' => Ext (· = b) w1 w' ∧ Blk w' b t cs) order hok ⟨Ext.refl _ _, hb⟩ (by have := h _ rfl hb; rwa [evDrawR_eq] at this)
theorem Ev.laB {w1 : World} {b o n : Nat} {t : TypeId} {cs : List Value} {k : Value → Prop} (hn : Nat.ble (o + n) cs.length = true) (hk : k (.agg ((cs.drop o).take n).toArray)) : LdG (fun w' => Ext (· = b) w1 w' ∧ Blk w' b t cs) b o n k :=
 ⟨(cs.drop o).take n, by rw [List.length_take, List.length_drop]; have := Nat.le_of_ble_eq_true hn; omega, fun _ h => h.2.cells (by rw [List.length_take, List.length_drop]; have := Nat.le_of_ble_eq_true hn; rw [Nat.min_eq_left (by omega)]), hk⟩
theorem readEnd_ok (s : List UInt8) (hl : s.length ≤ 100000) (w : World) (hM : MaxL w) (hV : NumV w) (ht : Pow10 w) :
   CallC Tryz.prog 41 #[.string (bs s)] w fun v w' => (∃ x y k, v = .tuple #[.agg #[.int .i64 x, .int .i64 y], .bool k] ∧ I64 x ∧ I64 y ∧ EndR s x y k) ∧ Ext No w w' := by
 refine fn_intro tabOk Tryz.func41 (by kernel_rfl) rfl Tryz.ntmps41 (lbO rfl) ?_
 have hS := St.start w No
 conv=>whnf
 refine hS.new (fun b2 w' hb2 hS => ?_)
 obtain ⟨a, c, j, hcut, hal, hcl⟩ := cut_small s 58
 conv=>whnf
 refine (cutT_ok s 58 _ hl (hM.no hS.ext)).mono ?_
 rintro v w1 ⟨rfl, hx⟩
 replace hS := hS.no hx
 rw [hcut]
 conv=>whnf
 refine (atoi_ok a _ (by omega) (hV.no hS.ext)).mono ?_
 rintro v w2 ⟨⟨x, e1, rfl, ix, hc1⟩, hx⟩
 replace hS := hS.no hx
 conv=>whnf
 refine (atoi_ok c _ (by omega) (hV.no hS.ext)).mono ?_
 rintro v w3 ⟨⟨y, e2, rfl, iy, hc2⟩, hx⟩
 replace hS := hS.no hx
 have hxm : ∀ m, Lib.atoiAll a = .ok m → x = m := fun m h => by
   rcases hc1 with ⟨h1, _⟩ | ⟨h1, _⟩
   · rw [h1] at h
     cases h
     rfl
   · exact absurd h (h1 m)
 have hym : ∀ m, Lib.atoiAll c = .ok m → y = m := fun m h => by
   rcases hc2 with ⟨h1, _⟩ | ⟨h1, _⟩
   · rw [h1] at h
     cases h
     rfl
   · exact absurd h (h1 m)
 have hel := endT_len x y ix iy
 conv=>whnf
 refine hS.st 0 rfl (lbO rfl) rfl (fun w' hS => ?_)
 replace hS : St w No w' [blk b2 39 [.int .i64 x, .int .i64 y]] := hS
 conv=>whnf
 refine Ev.drawB tabOk mixed (hS.blk 0 rfl) [0, 1, 2, 3, 4, 5, 6, 7, 8, 10, 9, 11, 12, 13, 14] (by kernel_rfl) ?_
 rintro w4 rfl hB
 replace hS := hS.drew
 have hK := hS.ref (· = b2)
 conv=>whnf
 refine laB rfl ?_
 rcases hc1 with ⟨ha, rfl⟩ | ⟨ha, t1, u1, rfl⟩
 · rcases hc2 with ⟨hc, rfl⟩ | ⟨hc, t2, u2, rfl⟩
   · (conv => whnf)
     refine laB rfl ?_
     conv=>whnf
     refine (endText_ok x y ix iy _ (ht.no hS.ext)).mono ?_
     rintro v w5 ⟨rfl, hx⟩
     replace hS := hS.no hx
     replace hK := hK.trans hx.of_no
     refine KeepC.mk ⟨hK, hS.blk 0 rfl⟩ ?_
     conv=>whnf
     refine eqS2 ?_
     conv=>whnf
     refine hS.stK hK 0 rfl (lbO rfl) rfl rfl (fun w' hK hS => KeepC.mk ⟨hK, hS.blk 0 rfl⟩ ?_)
     conv=>whnf
     refine hS.laX 0 rfl rfl ?_
     repeat' ((conv => whnf); first | refine RetC.mk ?_ | refine NzC.mk (by decide) ?_ | refine rgO ?_ | refine ixO ?_ | refine brD ?_ ?_ <;> (intro) | refine brND ?_ ?_ <;> (intro) | refine brN ?_ ?_ <;> (intro) | refine brI ?_ ?_ <;> (intro))
     exact ⟨⟨x, y, _, rfl, ix, iy, endR_of hcut hxm hym (by rw [decide_eq_true_iff]; exact ⟨fun h => ⟨⟨_, ha⟩, ⟨_, hc⟩, h⟩, fun h => h.2.2⟩)⟩, hS.ext⟩
   · (conv => whnf)
     refine hS.stK hK 0 rfl (lbO rfl) rfl rfl (fun w' hK hS => KeepC.mk ⟨hK, hS.blk 0 rfl⟩ ?_)
     conv=>whnf
     refine hS.laX 0 rfl rfl ?_
     repeat' ((conv => whnf); first | refine RetC.mk ?_ | refine NzC.mk (by decide) ?_ | refine rgO ?_ | refine ixO ?_ | refine brD ?_ ?_ <;> (intro) | refine brND ?_ ?_ <;> (intro) | refine brN ?_ ?_ <;> (intro) | refine brI ?_ ?_ <;> (intro))
     exact ⟨⟨x, y, _, rfl, ix, iy, endR_of hcut hxm hym ⟨fun h => (by cases h), fun h => absurd h.2.1.choose_spec (hc _)⟩⟩, hS.ext⟩
 · (conv => whnf)
   refine hS.stK hK 0 rfl (lbO rfl) rfl rfl (fun w' hK hS => KeepC.mk ⟨hK, hS.blk 0 rfl⟩ ?_)
   conv=>whnf
   refine hS.laX 0 rfl rfl ?_
   repeat' ((conv => whnf); first | refine RetC.mk ?_ | refine NzC.mk (by decide) ?_ | refine rgO ?_ | refine ixO ?_ | refine brD ?_ ?_ <;> (intro) | refine brND ?_ ?_ <;> (intro) | refine brN ?_ ?_ <;> (intro) | refine brI ?_ ?_ <;> (intro))
   exact ⟨⟨x, y, _, rfl, ix, iy, endR_of hcut hxm hym ⟨fun h => (by cases h), fun h => absurd h.1.choose_spec (ha _)⟩⟩, hS.ext⟩
theorem pktR_bad {s : List UInt8} {p : PktS} {ka kb : Bool} (key : ∀ q : PktS, q.err = 0 → q.text = s → ka = true ∧ kb = true ∧ p = q) (h : p.err ≠ 0 ∨ p.text ≠ s ∨ ka = false ∨ kb = false) : PktR s noPkt false := by
 refine ⟨fun h => (by cases h), fun _ => rfl, fun q h1 h2 => ?_⟩
 obtain ⟨g1, g2, rfl⟩ := key q h1 h2
 rcases h with h | h | h | h
 · exact absurd h1 h
 · exact absurd h2 h
 · rw [h] at g1
   cases g1
 · rw [h] at g2
   cases g2
theorem pktR_good {s : List UInt8} {p : PktS} {ka kb : Bool} (key : ∀ q : PktS, q.err = 0 → q.text = s → ka = true ∧ kb = true ∧ p = q) (h1 : p.err = 0) (h2 : p.text = s) : PktR s p true :=
 ⟨fun _ => ⟨h1, h2⟩, fun h => (by cases h), fun q g1 g2 => ⟨rfl, (key q g1 g2).2.2⟩⟩
theorem key3 {s t a b : List UInt8} {x1 y1 x2 y2 : Int} {ka kb : Bool} (hw : cutR 32 s = [t, a, b]) (ha : EndR a x1 y1 ka) (hb : EndR b x2 y2 kb) :
   ∀ q : PktS, q.err = 0 → q.text = s → ka = true ∧ kb = true ∧ (⟨1, x1, y1, x2, y2, 0⟩ : PktS) = q := fun q h1 h2 => by
 obtain ⟨f1, f2, f3, f4, f5⟩ := err_facts h1
 have hc := text_cut h1
 rw [h2, hw] at hc
 split at hc
 · rename_i hp
   simp only [List.cons.injEq, and_true] at hc
   obtain ⟨_, rfl, rfl⟩ := hc
   obtain ⟨k1, rfl, rfl⟩ := ha.2 _ _ f2 rfl
   obtain ⟨k2, rfl, rfl⟩ := hb.2 _ _ f3 rfl
   refine ⟨k1, k2, ?_⟩
   obtain ⟨pr, sa, sp, da, dp, fl⟩ := q
   dsimp only at hp f1 ⊢
   obtain rfl := hp
   obtain rfl : fl = 0 := by omega
   rfl
 · simp at hc
theorem key4 {s t a b f : List UInt8} {x1 y1 x2 y2 : Int} {ka kb : Bool} (hw : cutR 32 s = [t, a, b, f]) (ha : EndR a x1 y1 ka) (hb : EndR b x2 y2 kb) :
   ∀ q : PktS, q.err = 0 → q.text = s → ka = true ∧ kb = true ∧ (⟨2, x1, y1, x2, y2, (((flagOf f 16).getD 0 : Nat) : Int)⟩ : PktS) = q := fun q h1 h2 => by
 obtain ⟨f1, f2, f3, f4, f5⟩ := err_facts h1
 have hc := text_cut h1
 rw [h2, hw] at hc
 split at hc
 · simp at hc
 · rename_i hp
   simp only [List.cons.injEq, and_true] at hc
   obtain ⟨_, rfl, rfl, rfl⟩ := hc
   obtain ⟨k1, rfl, rfl⟩ := ha.2 _ _ f2 rfl
   obtain ⟨k2, rfl, rfl⟩ := hb.2 _ _ f3 rfl
   refine ⟨k1, k2, ?_⟩
   obtain ⟨pr, sa, sp, da, dp, fl⟩ := q
   dsimp only at hp f1 f4 f5 ⊢
   obtain ⟨fl, rfl⟩ : ∃ n : Nat, fl = n := ⟨fl.toNat, by omega⟩
   rw [flagOf_eq (n := fl) (by omega)]
   obtain rfl : pr = 2 := by omega
   rfl
theorem keyN {s : List UInt8} (h3 : (cutR 32 s).length ≠ 3) (h4 : (cutR 32 s).length ≠ 4) : PktR s noPkt false := by
 refine ⟨fun h => (by cases h), fun _ => rfl, fun q h1 h2 => ?_⟩
 have hc := text_cut h1
 rw [h2] at hc
 split at hc
 · exact absurd (by rw [hc]; rfl) h3
 · exact absurd (by rw [hc]; rfl) h4
theorem words3 {s : List UInt8} (h : (cutR 32 s).length = 3) : ∃ a b p, cutR 32 s = [a, b, p] := by
 generalize cutR 32 s = l at h
 match l, h with
 | [a, b, p], _ => exact ⟨a, b, p, rfl⟩
end Go.Proofs.YtogjajjdaoihdaaGreatDoor

namespace Go.Proofs.YtogjajjdaoihdaaGreatDoor
set_option maxRecDepth 20000
open Go Ev
theorem flag_step (f : List UInt8) (k : Nat) : (flagOf f (k + 1)).getD 0 = if ftext (k : Nat) = f then k else (flagOf f k).getD 0 := by
 show (if ftext (k : Nat) = f then some k else flagOf f k).getD 0 = _
 split <;> rfl
theorem packetRead_ok {E : Nat → Addr} {q : Nat} (s : List UInt8) (hl : s.length ≤ 100000) (w : World) (hM : MaxL w) (hV : NumV w) (ht : Pow10 w) (hN : NamesV w) (hE : Errs w E q [1, 2, 3]) :
   CallC Tryz.prog 15 #[.string (bs s)] w fun v w' => (∃ p k, v = .tuple #[.agg (encPkt p).toArray, errV E (if k = true then 0 else 1)] ∧ PktR s p k) ∧ Ext No w w' := by
 refine fn_intro tabOk Tryz.func15 (by kernel_rfl) rfl Tryz.ntmps15 (lbO rfl) ?_
 have hS := St.start w No
 conv=>whnf
 refine hS.new (fun b2 w' hb2 hS => ?_)
 replace hS : St w No w' [blk b2 41 (encPkt noPkt)] := hS
 conv=>whnf
 refine (split_ok s 32 _ hl (hM.no hS.ext)).mono ?_
 rintro v w1 ⟨⟨b, rfl, hb, hB⟩, hx⟩
 replace hS := hS.made hx (blk_local _ _ _) hB (by intro c hc; obtain rfl := List.mem_singleton.1 hc; exact ⟨hb, hB.lt⟩)
 clear hx hB hb
 have hmem : ∀ t ∈ cutR 32 s, t.length ≤ s.length := fun t h => cutR_mem_len h
 conv=>whnf
 refine brD (fun h1 => ?_) (fun h1 => ?_)
 · have hbad := keyN (s := s) (by omega) (by omega)
   conv=>whnf
   (refine drawS tabOk mixed [] ((· = b2)) [0, 1, 2, 3] (by kernel_rfl) ?_; rintro w1 rfl; replace hS := hS.drew)
   have hK := hS.ref (· = b2)
   conv=>whnf
   refine hS.ldrF (hE.at_ 1 rfl) id (fun e => Nat.ne_of_lt (Nat.lt_of_lt_of_le (cell_lt (hE.at_ 1 rfl)) hb2) e) ?_
   conv=>whnf
   refine hS.stK hK 0 rfl (lbO rfl) rfl rfl (fun w' hK hS => KeepC.mk hK ?_)
   conv=>whnf
   refine hS.laX 0 rfl rfl ?_
   repeat' ((conv => whnf); first | refine RetC.mk ?_ | refine NzC.mk (by decide) ?_ | refine rgO ?_ | refine ixO ?_ | refine brD ?_ ?_ <;> (intro) | refine brND ?_ ?_ <;> (intro) | refine brN ?_ ?_ <;> (intro) | refine brI ?_ ?_ <;> (intro))
   exact ⟨⟨noPkt, false, rfl, hbad⟩, hS.ext⟩
 conv=>whnf
 refine brD (fun h2 => ?_) (fun h2 => ?_)
 · have hbad := keyN (s := s) (by omega) (by omega)
   conv=>whnf
   (refine drawS tabOk mixed [] ((· = b2)) [0, 1, 2, 3] (by kernel_rfl) ?_; rintro w1 rfl; replace hS := hS.drew)
   have hK := hS.ref (· = b2)
   conv=>whnf
   refine hS.ldrF (hE.at_ 1 rfl) id (fun e => Nat.ne_of_lt (Nat.lt_of_lt_of_le (cell_lt (hE.at_ 1 rfl)) hb2) e) ?_
   conv=>whnf
   refine hS.stK hK 0 rfl (lbO rfl) rfl rfl (fun w' hK hS => KeepC.mk hK ?_)
   conv=>whnf
   refine hS.laX 0 rfl rfl ?_
   repeat' ((conv => whnf); first | refine RetC.mk ?_ | refine NzC.mk (by decide) ?_ | refine rgO ?_ | refine ixO ?_ | refine brD ?_ ?_ <;> (intro) | refine brND ?_ ?_ <;> (intro) | refine brN ?_ ?_ <;> (intro) | refine brI ?_ ?_ <;> (intro))
   exact ⟨⟨noPkt, false, rfl, hbad⟩, hS.ext⟩
 by_cases h4 : (cutR 32 s).length = 4
 · obtain ⟨t, a1, a2, f, hw⟩ := words4 h4
   rw [hw] at hS hmem ⊢
   have hl4 : ([t, a1, a2, f] : List (List UInt8)).length = 4 := rfl
   have m1 := hmem a1 (by simp)
   have m2 := hmem a2 (by simp)
   replace hS : St w No w1 [blk b2 41 (encPkt noPkt), blk b 9 [.string (bs t), .string (bs a1), .string (bs a2), .string (bs f)]] := hS
   conv=>whnf
   refine ixO ?_
   conv=>whnf
   refine hS.ld 1 rfl rfl ?_
   conv=>whnf
   refine (readEnd_ok a1 (by omega) _ (hM.no hS.ext) (hV.no hS.ext) (ht.no hS.ext)).mono ?_
   rintro v w3 ⟨⟨x1, y1, ka, rfl, ix1, iy1, hra⟩, hx⟩
   replace hS := hS.no hx
   clear hx
   conv=>whnf
   refine hS.new (fun b5 w' hb5 hS => ?_)
   conv=>whnf
   refine hS.st 2 rfl (lbO rfl) rfl (fun w' hS => ?_)
   conv=>whnf
   refine ixO ?_
   conv=>whnf
   refine hS.ld 1 rfl rfl ?_
   conv=>whnf
   refine (readEnd_ok a2 (by omega) _ (hM.no hS.ext) (hV.no hS.ext) (ht.no hS.ext)).mono ?_
   rintro v w4 ⟨⟨x2, y2, kb, rfl, ix2, iy2, hrb⟩, hx⟩
   replace hS := hS.no hx
   clear hx
   conv=>whnf
   refine hS.new (fun b7 w' hb7 hS => ?_)
   conv=>whnf
   refine hS.st 3 rfl (lbO rfl) rfl (fun w' hS => ?_)
   conv=>whnf
   refine hS.laX 2 rfl rfl ?_
   conv=>whnf
   refine hS.laX 3 rfl rfl ?_
   conv=>whnf
   refine hS.new (fun b9 w' hb9 hS => ?_)
   conv=>whnf
   refine hS.st 4 rfl (lbO rfl) rfl (fun w' hS => ?_)
   replace hS := hS.sel [0, 4, 1] (by decide)
   conv=>whnf
   refine hS.st 1 rfl (lbO rfl) rfl (fun w' hS => ?_)
   conv=>whnf
   refine loopR tabOk (fun σ w' q => ∃ (k : Nat), σ = [(46, .int .i64 (k : Int)), (9, .pointer (some ⟨b9, 0, none⟩)), (8, .bool kb), (6, .bool ka), (4, .slice (some ⟨b, 0, none⟩) 4 4), (2, .pointer (some ⟨b2, 0, none⟩)), (0, .string (bs s))] ∧ q = 16 - k ∧ k ≤ 16 ∧ St w No w' [blk b2 41 (encPkt noPkt), blk b9 41 (encPkt ⟨2, x1, y1, x2, y2, (((flagOf f k).getD 0 : Nat) : Int)⟩), blk b 9 [.string (bs t), .string (bs a1), .string (bs a2), .string (bs f)]])
     (σ' := [(46, .int .i64 ((0 : Nat) : Int)), (9, .pointer (some ⟨b9, 0, none⟩)), (8, .bool kb), (6, .bool ka), (4, .slice (some ⟨b, 0, none⟩) 4 4), (2, .pointer (some ⟨b2, 0, none⟩)), (0, .string (bs s))]) (n := 16) ⟨rfl, rfl, rfl, rfl, rfl, rfl, rfl, trivial⟩ ⟨0, rfl, rfl, Nat.zero_le _, hS⟩ ?_
   clear hS
   rintro _ w5 q ⟨k, rfl, rfl, hk, hS⟩
   conv=>whnf
   refine brD (fun h3 => ?_) (fun h3 => ?_)
   · have hst := flag_step f k
     conv=>whnf
     (refine drawS tabOk mixed [] (No) [0, 2, 3, 4, 1, 5] (by kernel_rfl) ?_; rintro w1 rfl; replace hS := hS.drew)
     have hK := hS.ref No
     conv=>whnf
     refine ixO ?_
     conv=>whnf
     refine hS.ldF 2 rfl rfl id ?_
     conv=>whnf
     refine (pflags_ok k (by omega) _ (hN.no hS.ext)).mono ?_
     rintro v w6 ⟨rfl, hx⟩
     replace hS := hS.no hx
     refine KeepC.mk (hK.trans hx) ?_
     clear hx hK
     conv=>whnf
     refine eqS2 ?_
     conv=>whnf
     refine brD (fun h5 => ?_) (fun h5 => ?_)
     · rw [if_pos h5] at hst
       conv=>whnf
       refine hS.st 1 rfl (lbO rfl) rfl (fun w' hS => ?_)
       conv=>whnf
       refine rgO ?_
       conv=>whnf
       refine LoopE.mk ⟨_, [(46, .int .i64 ((k + 1 : Nat) : Int)), (9, _), (8, _), (6, _), (4, _), (2, _), (0, _)], ?_, ⟨rfl, rfl, rfl, rfl, rfl, rfl, rfl, trivial⟩, ⟨k + 1, rfl, rfl, by omega, by rw [hst]; exact hS⟩⟩
       omega
     · rw [if_neg h5] at hst
       conv=>whnf
       refine rgO ?_
       conv=>whnf
       refine LoopE.mk ⟨_, [(46, .int .i64 ((k + 1 : Nat) : Int)), (9, _), (8, _), (6, _), (4, _), (2, _), (0, _)], ?_, ⟨rfl, rfl, rfl, rfl, rfl, rfl, rfl, trivial⟩, ⟨k + 1, rfl, rfl, by omega, by rw [hst]; exact hS⟩⟩
       omega
   · obtain rfl : k = 16 := by omega
     have hkey := key4 hw hra hrb
     generalize hp : (⟨_, _, _, _, _, _⟩ : PktS) = p at hkey hS
     have hS : St w No _ (blk b2 41 (encPkt noPkt) :: blk b9 41 (encPkt p) :: _) := hS
     conv=>whnf
     refine hS.laX 1 rfl rfl ?_
     conv=>whnf
     refine (ptextP_ok p _ ((hE.sub rfl).ext hS.ext fun _ h => h.elim) (ht.no hS.ext) (hN.no hS.ext)).mono ?_
     rintro v w8 ⟨rfl, hx⟩
     replace hS := hS.no hx
     clear hx
     cases hpe : p.err with
     | succ j =>
       have hbad := pktR_bad hkey (.inl (by omega))
       rw [if_neg (by omega)]
       conv=>whnf
       (refine drawS tabOk mixed [] ((· = b2)) [0, 1, 2, 3] (by kernel_rfl) ?_; rintro w1 rfl; replace hS := hS.drew)
       have hK := hS.ref (· = b2)
       conv=>whnf
       refine hS.ldrF (hE.at_ 1 rfl) id (fun e => Nat.ne_of_lt (Nat.lt_of_lt_of_le (cell_lt (hE.at_ 1 rfl)) hb2) e) ?_
       conv=>whnf
       refine hS.stK hK 0 rfl (lbO rfl) rfl rfl (fun w' hK hS => KeepC.mk hK ?_)
       conv=>whnf
       refine hS.laX 0 rfl rfl ?_
       repeat' ((conv => whnf); first | refine RetC.mk ?_ | refine NzC.mk (by decide) ?_ | refine rgO ?_ | refine ixO ?_ | refine brD ?_ ?_ <;> (intro) | refine brND ?_ ?_ <;> (intro) | refine brN ?_ ?_ <;> (intro) | refine brI ?_ ?_ <;> (intro))
       exact ⟨⟨noPkt, false, rfl, hbad⟩, hS.ext⟩
     | zero =>
       rw [if_pos rfl]
       conv=>whnf
       refine neS2 ?_
       conv=>whnf
       refine brND (fun h1 => ?_) (fun h1 => ?_)
       · have hbad := pktR_bad hkey (.inr (.inl h1))
         conv=>whnf
         (refine drawS tabOk mixed [] ((· = b2)) [0, 1, 2, 3] (by kernel_rfl) ?_; rintro w1 rfl; replace hS := hS.drew)
         have hK := hS.ref (· = b2)
         conv=>whnf
         refine hS.ldrF (hE.at_ 1 rfl) id (fun e => Nat.ne_of_lt (Nat.lt_of_lt_of_le (cell_lt (hE.at_ 1 rfl)) hb2) e) ?_
         conv=>whnf
         refine hS.stK hK 0 rfl (lbO rfl) rfl rfl (fun w' hK hS => KeepC.mk hK ?_)
         conv=>whnf
         refine hS.laX 0 rfl rfl ?_
         repeat' ((conv => whnf); first | refine RetC.mk ?_ | refine NzC.mk (by decide) ?_ | refine rgO ?_ | refine ixO ?_ | refine brD ?_ ?_ <;> (intro) | refine brND ?_ ?_ <;> (intro) | refine brN ?_ ?_ <;> (intro) | refine brI ?_ ?_ <;> (intro))
         exact ⟨⟨noPkt, false, rfl, hbad⟩, hS.ext⟩
       cases ka with
       | false =>
         have hbad := pktR_bad hkey (.inr (.inr (.inl rfl)))
         conv=>whnf
         (refine drawS tabOk mixed [] ((· = b2)) [0, 1, 2, 3] (by kernel_rfl) ?_; rintro w1 rfl; replace hS := hS.drew)
         have hK := hS.ref (· = b2)
         conv=>whnf
         refine hS.ldrF (hE.at_ 1 rfl) id (fun e => Nat.ne_of_lt (Nat.lt_of_lt_of_le (cell_lt (hE.at_ 1 rfl)) hb2) e) ?_
         conv=>whnf
         refine hS.stK hK 0 rfl (lbO rfl) rfl rfl (fun w' hK hS => KeepC.mk hK ?_)
         conv=>whnf
         refine hS.laX 0 rfl rfl ?_
         repeat' ((conv => whnf); first | refine RetC.mk ?_ | refine NzC.mk (by decide) ?_ | refine rgO ?_ | refine ixO ?_ | refine brD ?_ ?_ <;> (intro) | refine brND ?_ ?_ <;> (intro) | refine brN ?_ ?_ <;> (intro) | refine brI ?_ ?_ <;> (intro))
         exact ⟨⟨noPkt, false, rfl, hbad⟩, hS.ext⟩
       | true =>
         cases kb with
         | false =>
           have hbad := pktR_bad hkey (.inr (.inr (.inr rfl)))
           conv=>whnf
           (refine drawS tabOk mixed [] ((· = b2)) [0, 1, 2, 3] (by kernel_rfl) ?_; rintro w1 rfl; replace hS := hS.drew)
           have hK := hS.ref (· = b2)
           conv=>whnf
           refine hS.ldrF (hE.at_ 1 rfl) id (fun e => Nat.ne_of_lt (Nat.lt_of_lt_of_le (cell_lt (hE.at_ 1 rfl)) hb2) e) ?_
           conv=>whnf
           refine hS.stK hK 0 rfl (lbO rfl) rfl rfl (fun w' hK hS => KeepC.mk hK ?_)
           conv=>whnf
           refine hS.laX 0 rfl rfl ?_
           repeat' ((conv => whnf); first | refine RetC.mk ?_ | refine NzC.mk (by decide) ?_ | refine rgO ?_ | refine ixO ?_ | refine brD ?_ ?_ <;> (intro) | refine brND ?_ ?_ <;> (intro) | refine brN ?_ ?_ <;> (intro) | refine brI ?_ ?_ <;> (intro))
           exact ⟨⟨noPkt, false, rfl, hbad⟩, hS.ext⟩
         | true =>
           conv=>whnf
           refine hS.laX 1 rfl rfl ?_
           conv=>whnf
           refine hS.st 0 rfl (lbO rfl) rfl (fun w' hS => ?_)
           conv=>whnf
           refine hS.laX 0 rfl rfl ?_
           repeat' ((conv => whnf); first | refine RetC.mk ?_ | refine NzC.mk (by decide) ?_ | refine rgO ?_ | refine ixO ?_ | refine brD ?_ ?_ <;> (intro) | refine brND ?_ ?_ <;> (intro) | refine brN ?_ ?_ <;> (intro) | refine brI ?_ ?_ <;> (intro))
           exact ⟨⟨p, true, rfl, pktR_good hkey hpe h1⟩, hS.ext⟩
 · obtain ⟨t, a1, a2, hw⟩ := words3 (s := s) (by omega)
   rw [hw] at hS hmem ⊢
   have hl3 : ([t, a1, a2] : List (List UInt8)).length = 3 := rfl
   have m1 := hmem a1 (by simp)
   have m2 := hmem a2 (by simp)
   replace hS : St w No w1 [blk b2 41 (encPkt noPkt), blk b 9 [.string (bs t), .string (bs a1), .string (bs a2)]] := hS
   conv=>whnf
   refine ixO ?_
   conv=>whnf
   refine hS.ld 1 rfl rfl ?_
   conv=>whnf
   refine (readEnd_ok a1 (by omega) _ (hM.no hS.ext) (hV.no hS.ext) (ht.no hS.ext)).mono ?_
   rintro v w3 ⟨⟨x1, y1, ka, rfl, ix1, iy1, hra⟩, hx⟩
   replace hS := hS.no hx
   clear hx
   conv=>whnf
   refine hS.new (fun b5 w' hb5 hS => ?_)
   conv=>whnf
   refine hS.st 2 rfl (lbO rfl) rfl (fun w' hS => ?_)
   conv=>whnf
   refine ixO ?_
   conv=>whnf
   refine hS.ld 1 rfl rfl ?_
   conv=>whnf
   refine (readEnd_ok a2 (by omega) _ (hM.no hS.ext) (hV.no hS.ext) (ht.no hS.ext)).mono ?_
   rintro v w4 ⟨⟨x2, y2, kb, rfl, ix2, iy2, hrb⟩, hx⟩
   replace hS := hS.no hx
   clear hx
   conv=>whnf
   refine hS.new (fun b7 w' hb7 hS => ?_)
   conv=>whnf
   refine hS.st 3 rfl (lbO rfl) rfl (fun w' hS => ?_)
   conv=>whnf
   refine hS.laX 2 rfl rfl ?_
   conv=>whnf
   refine hS.laX 3 rfl rfl ?_
   conv=>whnf
   refine hS.new (fun b9 w' hb9 hS => ?_)
   conv=>whnf
   refine hS.st 4 rfl (lbO rfl) rfl (fun w' hS => ?_)
   replace hS := hS.sel [0, 4, 1] (by decide)
   replace hS : St w No w' [blk b2 41 (encPkt noPkt), blk b9 41 (encPkt ⟨1, x1, y1, x2, y2, 0⟩), blk b 9 [.string (bs t), .string (bs a1), .string (bs a2)]] := hS
   have hkey := key3 hw hra hrb
   generalize hp : (⟨_, _, _, _, _, _⟩ : PktS) = p at hkey hS
   have hS : St w No _ (blk b2 41 (encPkt noPkt) :: blk b9 41 (encPkt p) :: _) := hS
   conv=>whnf
   refine hS.laX 1 rfl rfl ?_
   conv=>whnf
   refine (ptextP_ok p _ ((hE.sub rfl).ext hS.ext fun _ h => h.elim) (ht.no hS.ext) (hN.no hS.ext)).mono ?_
   rintro v w8 ⟨rfl, hx⟩
   replace hS := hS.no hx
   clear hx
   cases hpe : p.err with
   | succ j =>
     have hbad := pktR_bad hkey (.inl (by omega))
     rw [if_neg (by omega)]
     conv=>whnf
     (refine drawS tabOk mixed [] ((· = b2)) [0, 1, 2, 3] (by kernel_rfl) ?_; rintro w1 rfl; replace hS := hS.drew)
     have hK := hS.ref (· = b2)
     conv=>whnf
     refine hS.ldrF (hE.at_ 1 rfl) id (fun e => Nat.ne_of_lt (Nat.lt_of_lt_of_le (cell_lt (hE.at_ 1 rfl)) hb2) e) ?_
     conv=>whnf
     refine hS.stK hK 0 rfl (lbO rfl) rfl rfl (fun w' hK hS => KeepC.mk hK ?_)
     conv=>whnf
     refine hS.laX 0 rfl rfl ?_
     repeat' ((conv => whnf); first | refine RetC.mk ?_ | refine NzC.mk (by decide) ?_ | refine rgO ?_ | refine ixO ?_ | refine brD ?_ ?_ <;> (intro) | refine brND ?_ ?_ <;> (intro) | refine brN ?_ ?_ <;> (intro) | refine brI ?_ ?_ <;> (intro))
     exact ⟨⟨noPkt, false, rfl, hbad⟩, hS.ext⟩
   | zero =>
     rw [if_pos rfl]
     conv=>whnf
     refine neS2 ?_
     conv=>whnf
     refine brND (fun h1 => ?_) (fun h1 => ?_)
     · have hbad := pktR_bad hkey (.inr (.inl h1))
       conv=>whnf
       (refine drawS tabOk mixed [] ((· = b2)) [0, 1, 2, 3] (by kernel_rfl) ?_; rintro w1 rfl; replace hS := hS.drew)
       have hK := hS.ref (· = b2)
       conv=>whnf
       refine hS.ldrF (hE.at_ 1 rfl) id (fun e => Nat.ne_of_lt (Nat.lt_of_lt_of_le (cell_lt (hE.at_ 1 rfl)) hb2) e) ?_
       conv=>whnf
       refine hS.stK hK 0 rfl (lbO rfl) rfl rfl (fun w' hK hS => KeepC.mk hK ?_)
       conv=>whnf
       refine hS.laX 0 rfl rfl ?_
       repeat' ((conv => whnf); first | refine RetC.mk ?_ | refine NzC.mk (by decide) ?_ | refine rgO ?_ | refine ixO ?_ | refine brD ?_ ?_ <;> (intro) | refine brND ?_ ?_ <;> (intro) | refine brN ?_ ?_ <;> (intro) | refine brI ?_ ?_ <;> (intro))
       exact ⟨⟨noPkt, false, rfl, hbad⟩, hS.ext⟩
     cases ka with
     | false =>
       have hbad := pktR_bad hkey (.inr (.inr (.inl rfl)))
       conv=>whnf
       (refine drawS tabOk mixed [] ((· = b2)) [0, 1, 2, 3] (by kernel_rfl) ?_; rintro w1 rfl; replace hS := hS.drew)
       have hK := hS.ref (· = b2)
       conv=>whnf
       refine hS.ldrF (hE.at_ 1 rfl) id (fun e => Nat.ne_of_lt (Nat.lt_of_lt_of_le (cell_lt (hE.at_ 1 rfl)) hb2) e) ?_
       conv=>whnf
       refine hS.stK hK 0 rfl (lbO rfl) rfl rfl (fun w' hK hS => KeepC.mk hK ?_)
       conv=>whnf
       refine hS.laX 0 rfl rfl ?_
       repeat' ((conv => whnf); first | refine RetC.mk ?_ | refine NzC.mk (by decide) ?_ | refine rgO ?_ | refine ixO ?_ | refine brD ?_ ?_ <;> (intro) | refine brND ?_ ?_ <;> (intro) | refine brN ?_ ?_ <;> (intro) | refine brI ?_ ?_ <;> (intro))
       exact ⟨⟨noPkt, false, rfl, hbad⟩, hS.ext⟩
     | true =>
       cases kb with
       | false =>
         have hbad := pktR_bad hkey (.inr (.inr (.inr rfl)))
         conv=>whnf
         (refine drawS tabOk mixed [] ((· = b2)) [0, 1, 2, 3] (by kernel_rfl) ?_; rintro w1 rfl; replace hS := hS.drew)
         have hK := hS.ref (· = b2)
         conv=>whnf
         refine hS.ldrF (hE.at_ 1 rfl) id (fun e => Nat.ne_of_lt (Nat.lt_of_lt_of_le (cell_lt (hE.at_ 1 rfl)) hb2) e) ?_
         conv=>whnf
         refine hS.stK hK 0 rfl (lbO rfl) rfl rfl (fun w' hK hS => KeepC.mk hK ?_)
         conv=>whnf
         refine hS.laX 0 rfl rfl ?_
         repeat' ((conv => whnf); first | refine RetC.mk ?_ | refine NzC.mk (by decide) ?_ | refine rgO ?_ | refine ixO ?_ | refine brD ?_ ?_ <;> (intro) | refine brND ?_ ?_ <;> (intro) | refine brN ?_ ?_ <;> (intro) | refine brI ?_ ?_ <;> (intro))
         exact ⟨⟨noPkt, false, rfl, hbad⟩, hS.ext⟩
       | true =>
         conv=>whnf
         refine hS.laX 1 rfl rfl ?_
         conv=>whnf
         refine hS.st 0 rfl (lbO rfl) rfl (fun w' hS => ?_)
         conv=>whnf
         refine hS.laX 0 rfl rfl ?_
         repeat' ((conv => whnf); first | refine RetC.mk ?_ | refine NzC.mk (by decide) ?_ | refine rgO ?_ | refine ixO ?_ | refine brD ?_ ?_ <;> (intro) | refine brND ?_ ?_ <;> (intro) | refine brN ?_ ?_ <;> (intro) | refine brI ?_ ?_ <;> (intro))
         exact ⟨⟨p, true, rfl, pktR_good hkey hpe h1⟩, hS.ext⟩
end Go.Proofs.YtogjajjdaoihdaaGreatDoor

namespace Go.Proofs.YtogjajjdaoihdaaGreatDoor
set_option maxRecDepth 20000
open Go Ev
end Go.Proofs.YtogjajjdaoihdaaGreatDoor
