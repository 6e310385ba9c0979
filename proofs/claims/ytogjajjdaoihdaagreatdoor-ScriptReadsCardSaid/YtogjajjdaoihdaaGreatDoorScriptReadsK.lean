/-
  Texts of this claim, joined: RefReadD, RefReadE, LawS, ScrL, ScriptReads.
-/
import Derived.Test.YtogjajjdaoihdaaGreatDoorScriptReadsJ
import Derived.Shelf.Vars
import Derived.Lay
import Derived.LaidHandle

namespace Go.Proofs.YtogjajjdaoihdaaGreatDoor
set_option maxRecDepth 20000
open Go Ev
theorem last_eq {s : List UInt8} {x : UInt8} (hne : s ≠ []) (hx : s[s.length - 1]? = some x) : s.getLast? = some x := by
 rw [List.getLast?_eq_getElem?, hx]
theorem rrulesOf_ok (s : List UInt8) (hl : s.length ≤ 100000) (w : World) :
   CallC Tryz.prog 10 #[.string (bs s)] w fun v w' => (∃ a c, v = .tuple #[.slice a (rulesOfS s).1.length c, .agg (encF (rulesOfS s).2.1 (rulesOfS s).2.2).toArray] ∧ (ownL 98 5 encRule (.slice a (rulesOfS s).1.length c) (rulesOfS s).1).holds w' ∧ Fresh w w' (.slice a (rulesOfS s).1.length c)) ∧ Ext No w w' := by
 have hsz := bs_size s
 refine fn_intro tabOk Tryz.func10 (by kernel_rfl) rfl Tryz.ntmps10 (lbO rfl) ?_
 have hS := St.start w No
 unfold rulesOfS
 conv=>whnf
 refine hS.new (fun b3 w' hb3 hS => ?_)
 replace hS : St w No w' [blk b3 30 (encF 0 0)] := hS
 conv=>whnf
 refine brD (fun h1 => ?_) (fun h1 => ?_)
 · rw [if_pos (by omega)]
   repeat' ((conv => whnf); first | refine RetC.mk ?_ | refine NzC.mk (by decide) ?_ | refine rgO ?_ | refine ixO ?_ | refine hS.ld 0 rfl rfl ?_ | refine hS.laX 0 rfl rfl ?_ | (refine (bare_ok 2 _).mono ?_; rintro v w' ⟨rfl, hx'⟩; replace hS := hS.no hx'; clear hx') | refine hS.st 0 rfl (lbO rfl) rfl (fun w' hS => ?_) | refine brD ?_ ?_ <;> (intro) | refine brND ?_ ?_ <;> (intro) | refine brN ?_ ?_ <;> (intro) | refine brI ?_ ?_ <;> (intro))
   exact ⟨⟨none, 0, rfl, nilR_holds _, fun g hg => by cases hg⟩, hS.ext⟩
 rw [if_neg (by omega)]
 conv=>whnf
 refine eqS2 ?_
 conv=>whnf
 refine brD (fun h2 => ?_) (fun h2 => ?_)
 · rw [if_pos h2]
   repeat' ((conv => whnf); first | refine RetC.mk ?_ | refine NzC.mk (by decide) ?_ | refine rgO ?_ | refine ixO ?_ | refine hS.ld 0 rfl rfl ?_ | refine hS.laX 0 rfl rfl ?_ | (refine (fine_ok _).mono ?_; rintro v w' ⟨rfl, hx'⟩; replace hS := hS.no hx'; clear hx') | refine hS.st 0 rfl (lbO rfl) rfl (fun w' hS => ?_) | refine brD ?_ ?_ <;> (intro) | refine brND ?_ ?_ <;> (intro) | refine brN ?_ ?_ <;> (intro) | refine brI ?_ ?_ <;> (intro))
   exact ⟨⟨none, 0, rfl, nilR_holds _, fun g hg => by cases hg⟩, hS.ext⟩
 have h2 : ¬ s = [] := h2
 rw [if_neg h2]
 have hpos := List.length_pos_iff.2 h2
 obtain ⟨x, hx⟩ : ∃ x, s[s.length - 1]? = some x := ⟨_, List.getElem?_eq_getElem (by omega)⟩
 have hlast := last_eq h2 hx
 have htl := trimN_len s
 conv=>whnf
 refine rgO ?_
 conv=>whnf
 refine idxS (j := s.length - 1) Tryz.underlying9 (by omega) hx ?_
 conv=>whnf
 refine eqC ?_
 have hxc : ((x.toNat : Int) == 10) = decide (x = 10) := by
   rw [Bool.eq_iff_iff, beq_iff_eq, decide_eq_true_iff]
   exact ⟨fun h => UInt8.toNat_inj.1 (by show x.toNat = 10; omega), fun h => by rw [h]; rfl⟩
 rw [hxc]
 generalize hts : cutR 10 (trimN s) = ts
 conv=>whnf
 refine brD (fun h10 => ?_) (fun h10 => ?_)
 · have hu : s.take (s.length - 1) = trimN s := by
     unfold trimN
     rw [hlast, if_pos (by rw [h10]), List.dropLast_eq_take]
   conv=>whnf
   refine rgO ?_
   conv=>whnf
   refine slcTo Tryz.underlying9 (b := s.length - 1) (by omega) (by omega) hu ?_
   have hul : (trimN s).length ≤ s.length := htl
   conv=>whnf
   refine (rcutT_ok (trimN s) 10 (by omega) _).mono ?_
   rintro v w2 ⟨⟨a0, d, rfl, ho, hf⟩, hx⟩
   replace hS := hS.madeL hx ho hf
   clear hx ho hf
   have hcl := cutR_len 10 (trimN s)
   have hmem : ∀ t ∈ cutR 10 (trimN s), t.length ≤ 100000 := fun t h => by
     have := cutR_mem_len h
     omega
   have hnn := cutR_ne 10 (trimN s)
   rw [hts] at hS hcl hmem hnn ⊢
   obtain ⟨bw, rfl⟩ := ownT_some (hS.get 1 rfl) hnn
   obtain ⟨n, hn⟩ : ∃ n, n = ts.length := ⟨_, rfl⟩
   rw [← hn] at hS ⊢
   have hS := hS.add (ownL_local (e := 98) (enc := encRule) (sz := 5) (v := .slice none 0 0) (xs := [])) (nilR_holds _) (by simp [ownL, own, Value.ownBlock]) (by simp [ownL, own, Value.ownBlock])
   conv=>whnf
   refine loopR tabOk (fun σ w' q => ∃ (k : Nat) (a : Option Addr) (c : Nat) (rs : List RuleS), σ = [(6, .int .i64 (k : Int)), (5, .slice a k c), (4, .slice (some ⟨bw, 0, none⟩) n d), (3, .pointer (some ⟨b3, 0, none⟩))] ∧ q = n - k ∧ k ≤ n ∧ rs.length = k ∧ rulesOfL ts 0 = (rs ++ (rulesOfL (ts.drop k) k).1, (rulesOfL (ts.drop k) k).2) ∧ St w No w' [blk b3 30 (encF 0 0), ownL 9 1 encT (.slice (some ⟨bw, 0, none⟩) n d) ts, ownL 98 5 encRule (.slice a k c) rs])
     (σ' := [(6, .int .i64 ((0 : Nat) : Int)), (5, .slice none 0 0), (4, .slice (some ⟨bw, 0, none⟩) n d), (3, .pointer (some ⟨b3, 0, none⟩))]) (n := n) ⟨rfl, rfl, rfl, rfl, trivial⟩ ⟨0, none, 0, [], rfl, rfl, Nat.zero_le _, rfl, rfl, hS⟩ ?_
   clear hS
   rintro _ w1 q ⟨k, a, c, rs, rfl, rfl, hk, hrs, hi, hS⟩
   conv=>whnf
   refine brD (fun h3 => ?_) (fun h3 => ?_)
   · have hkn : k < ts.length := by omega
     have hat := List.getElem?_eq_getElem hkn
     generalize ts[k] = t at hat
     have hst := rulesOfL_step hat
     have htl := hmem t (List.mem_of_getElem? hat)
     conv=>whnf
     refine ixO ?_
     conv=>whnf
     refine Ev.ldc (ownT_cell (hS.get 1 rfl) hat) ?_
     conv=>whnf
     refine (rruleOf_ok t htl _).mono ?_
     rintro v w3 ⟨⟨r, kk, rfl, hr⟩, hx⟩
     replace hS := hS.no hx
     clear hx
     conv=>whnf
     refine hS.new (fun b7 w' hb7 hS => ?_)
     conv=>whnf
     refine hS.st 3 rfl (lbO rfl) rfl (fun w' hS => ?_)
     replace hS : St w No w' [blk b3 30 (encF 0 0), ownL 9 1 encT (.slice (some ⟨bw, 0, none⟩) n d) ts, ownL 98 5 encRule (.slice a k c) rs, blk b7 98 (encRule r)] := hS
     cases kk with
     | false =>
       rw [if_neg (by simp)] at hr
       rw [hr] at hst
       have e1 : (rulesOfL ts 0).2 = some k := by rw [hi, hst]
       rw [e1]
       conv=>whnf
       refine hS.st 0 rfl (lbO rfl) rfl (fun w' hS => ?_)
       conv=>whnf
       refine hS.laX 0 rfl rfl ?_
       repeat' ((conv => whnf); first | refine RetC.mk ?_ | refine NzC.mk (by decide) ?_ | refine rgO ?_ | refine ixO ?_ | refine brD ?_ ?_ <;> (intro) | refine brND ?_ ?_ <;> (intro) | refine brN ?_ ?_ <;> (intro) | refine brI ?_ ?_ <;> (intro))
       exact ⟨⟨none, 0, rfl, nilR_holds _, fun g hg => by cases hg⟩, hS.ext⟩
     | true =>
       rw [if_pos rfl] at hr
       rw [hr] at hst
       dsimp only at hst
       conv=>whnf
       refine hS.laX 3 rfl rfl ?_
       conv=>whnf
       refine hS.lit (cs := encRule r) Tryz.underlying28 (sz := 5) (by kernel_rfl) (z := .agg (encRule noRule).toArray) (by kernel_rfl) rfl rfl (by rfl) (fun bl w' hbl hS => ?_)
       have hx : Slc w' 5 encRule (fun _ => True) (some ⟨bl, 0, none⟩) 1 [r] := Slc.of_blk codRule (hS.blk 4 rfl) rfl (by decide) (fun _ _ => trivial) rfl
       conv=>whnf
       refine hS.appS codRule 2 Tryz.underlying28 (bytes := 32) (by kernel_rfl) (z := .agg (encRule noRule).toArray) (by kernel_rfl) rfl rfl hx (by unfold maxLen; omega) (by omega) (fun a2 c2 w' hS => ?_)
       rw [hrs] at hS ⊢
       replace hS : St w No w' [blk b3 30 (encF 0 0), ownL 9 1 encT (.slice (some ⟨bw, 0, none⟩) n d) ts, ownL 98 5 encRule (.slice a2 (k + 1) c2) (rs ++ [r]), blk b7 98 (encRule r), blk bl 98 (encRule r)] := hS
       conv=>whnf
       refine rgO ?_
       conv=>whnf
       refine LoopE.mk ⟨_, [(6, .int .i64 ((k + 1 : Nat) : Int)), (5, _), (4, _), (3, _)], ?_, ⟨rfl, rfl, rfl, rfl, trivial⟩, ⟨k + 1, a2, c2, rs ++ [r], rfl, rfl, by omega, by rw [List.length_append, hrs]; rfl, by rw [hi, hst]; simp, hS.keep 3⟩⟩
       omega
   · obtain rfl : k = n := by omega
     rw [List.drop_of_length_le (by omega)] at hi
     have e1 : rulesOfL ts 0 = (rs, none) := by
       rw [hi]
       simp [rulesOfL]
     rw [e1]
     dsimp only
     have hx := ownL_slc (G := fun _ => True) codRule (hS.get 2 rfl) fun _ _ => trivial
     conv=>whnf
     refine (rulesFault_ok hx).mono ?_
     rintro v w3 ⟨rfl, hx'⟩
     replace hS := hS.no hx'
     have hcd := fault_code rs
     generalize faultL rs = F at hS hcd ⊢
     obtain ⟨fc, fa⟩ := F
     dsimp only
     conv=>whnf
     refine hS.new (fun b9 w' hb9 hS => ?_)
     conv=>whnf
     refine hS.st 3 rfl (lbO rfl) rfl (fun w' hS => ?_)
     replace hS : St w No w' [blk b3 30 (encF 0 0), ownL 9 1 encT (.slice (some ⟨bw, 0, none⟩) k d) ts, ownL 98 5 encRule (.slice a k c) rs, blk b9 30 (encF fc fa)] := hS
     have hne := hS.ne 3 0 rfl rfl (by decide)
     conv=>whnf
     refine hS.ld 3 rfl rfl ?_
     conv=>whnf
     refine brD (fun h5 => ?_) (fun h5 => ?_)
     · rw [if_pos (by omega)]
       conv=>whnf
       (refine drawS tabOk mixed [] ((· = b3)) [0, 1, 2] (by kernel_rfl) ?_; rintro w1 rfl; replace hS := hS.drew)
       have hK := hS.ref (· = b3)
       conv=>whnf
       refine hS.laXF 3 rfl rfl hne ?_
       conv=>whnf
       refine hS.stK hK 0 rfl (lbO rfl) rfl rfl (fun w' hK hS => KeepC.mk hK ?_)
       replace hS : St w No w' [blk b3 30 (encF fc fa), ownL 9 1 encT (.slice (some ⟨bw, 0, none⟩) k d) ts, ownL 98 5 encRule (.slice a k c) rs, blk b9 30 (encF fc fa)] := hS
       conv=>whnf
       refine hS.laX 0 rfl rfl ?_
       repeat' ((conv => whnf); first | refine RetC.mk ?_ | refine NzC.mk (by decide) ?_ | refine rgO ?_ | refine ixO ?_ | refine brD ?_ ?_ <;> (intro) | refine brND ?_ ?_ <;> (intro) | refine brN ?_ ?_ <;> (intro) | refine brI ?_ ?_ <;> (intro))
       exact ⟨⟨none, 0, rfl, nilR_holds _, fun g hg => by cases hg⟩, hS.ext⟩
     · obtain rfl : fc = 0 := by omega
       obtain rfl : fa = -1 := by
         dsimp only at hcd
         omega
       rw [if_neg (by omega)]
       conv=>whnf
       (refine drawS tabOk mixed [] ((· = b3)) [0, 1, 2, 3] (by kernel_rfl) ?_; rintro w1 rfl; replace hS := hS.drew)
       have hK := hS.ref (· = b3)
       conv=>whnf
       refine hS.laXF 3 rfl rfl hne ?_
       conv=>whnf
       refine hS.stK hK 0 rfl (lbO rfl) rfl rfl (fun w' hK hS => KeepC.mk hK ?_)
       replace hS : St w No w' [blk b3 30 (encF 0 (-1)), ownL 9 1 encT (.slice (some ⟨bw, 0, none⟩) k d) ts, ownL 98 5 encRule (.slice a k c) rs, blk b9 30 (encF 0 (-1))] := hS
       conv=>whnf
       refine hS.laX 0 rfl rfl ?_
       repeat' ((conv => whnf); first | refine RetC.mk ?_ | refine NzC.mk (by decide) ?_ | refine rgO ?_ | refine ixO ?_ | refine brD ?_ ?_ <;> (intro) | refine brND ?_ ?_ <;> (intro) | refine brN ?_ ?_ <;> (intro) | refine brI ?_ ?_ <;> (intro))
       rw [← hrs]
       exact ⟨⟨a, c, rfl, by rw [hrs]; exact hS.get 2 rfl, by rw [hrs]; exact hS.freshAt 2 rfl⟩, hS.ext⟩
 · have hu : trimN s = s := by
     unfold trimN
     rw [hlast, if_neg (fun e => h10 (Option.some.inj e))]
   rw [hu] at hts
   have hul : (s).length ≤ s.length := Nat.le_refl _
   conv=>whnf
   refine (rcutT_ok (s) 10 (by omega) _).mono ?_
   rintro v w2 ⟨⟨a0, d, rfl, ho, hf⟩, hx⟩
   replace hS := hS.madeL hx ho hf
   clear hx ho hf
   have hcl := cutR_len 10 (s)
   have hmem : ∀ t ∈ cutR 10 (s), t.length ≤ 100000 := fun t h => by
     have := cutR_mem_len h
     omega
   have hnn := cutR_ne 10 (s)
   rw [hts] at hS hcl hmem hnn ⊢
   obtain ⟨bw, rfl⟩ := ownT_some (hS.get 1 rfl) hnn
   obtain ⟨n, hn⟩ : ∃ n, n = ts.length := ⟨_, rfl⟩
   rw [← hn] at hS ⊢
   have hS := hS.add (ownL_local (e := 98) (enc := encRule) (sz := 5) (v := .slice none 0 0) (xs := [])) (nilR_holds _) (by simp [ownL, own, Value.ownBlock]) (by simp [ownL, own, Value.ownBlock])
   conv=>whnf
   refine loopR tabOk (fun σ w' q => ∃ (k : Nat) (a : Option Addr) (c : Nat) (rs : List RuleS), σ = [(6, .int .i64 (k : Int)), (5, .slice a k c), (4, .slice (some ⟨bw, 0, none⟩) n d), (3, .pointer (some ⟨b3, 0, none⟩))] ∧ q = n - k ∧ k ≤ n ∧ rs.length = k ∧ rulesOfL ts 0 = (rs ++ (rulesOfL (ts.drop k) k).1, (rulesOfL (ts.drop k) k).2) ∧ St w No w' [blk b3 30 (encF 0 0), ownL 9 1 encT (.slice (some ⟨bw, 0, none⟩) n d) ts, ownL 98 5 encRule (.slice a k c) rs])
     (σ' := [(6, .int .i64 ((0 : Nat) : Int)), (5, .slice none 0 0), (4, .slice (some ⟨bw, 0, none⟩) n d), (3, .pointer (some ⟨b3, 0, none⟩))]) (n := n) ⟨rfl, rfl, rfl, rfl, trivial⟩ ⟨0, none, 0, [], rfl, rfl, Nat.zero_le _, rfl, rfl, hS⟩ ?_
   clear hS
   rintro _ w1 q ⟨k, a, c, rs, rfl, rfl, hk, hrs, hi, hS⟩
   conv=>whnf
   refine brD (fun h3 => ?_) (fun h3 => ?_)
   · have hkn : k < ts.length := by omega
     have hat := List.getElem?_eq_getElem hkn
     generalize ts[k] = t at hat
     have hst := rulesOfL_step hat
     have htl := hmem t (List.mem_of_getElem? hat)
     conv=>whnf
     refine ixO ?_
     conv=>whnf
     refine Ev.ldc (ownT_cell (hS.get 1 rfl) hat) ?_
     conv=>whnf
     refine (rruleOf_ok t htl _).mono ?_
     rintro v w3 ⟨⟨r, kk, rfl, hr⟩, hx⟩
     replace hS := hS.no hx
     clear hx
     conv=>whnf
     refine hS.new (fun b7 w' hb7 hS => ?_)
     conv=>whnf
     refine hS.st 3 rfl (lbO rfl) rfl (fun w' hS => ?_)
     replace hS : St w No w' [blk b3 30 (encF 0 0), ownL 9 1 encT (.slice (some ⟨bw, 0, none⟩) n d) ts, ownL 98 5 encRule (.slice a k c) rs, blk b7 98 (encRule r)] := hS
     cases kk with
     | false =>
       rw [if_neg (by simp)] at hr
       rw [hr] at hst
       have e1 : (rulesOfL ts 0).2 = some k := by rw [hi, hst]
       rw [e1]
       conv=>whnf
       refine hS.st 0 rfl (lbO rfl) rfl (fun w' hS => ?_)
       conv=>whnf
       refine hS.laX 0 rfl rfl ?_
       repeat' ((conv => whnf); first | refine RetC.mk ?_ | refine NzC.mk (by decide) ?_ | refine rgO ?_ | refine ixO ?_ | refine brD ?_ ?_ <;> (intro) | refine brND ?_ ?_ <;> (intro) | refine brN ?_ ?_ <;> (intro) | refine brI ?_ ?_ <;> (intro))
       exact ⟨⟨none, 0, rfl, nilR_holds _, fun g hg => by cases hg⟩, hS.ext⟩
     | true =>
       rw [if_pos rfl] at hr
       rw [hr] at hst
       dsimp only at hst
       conv=>whnf
       refine hS.laX 3 rfl rfl ?_
       conv=>whnf
       refine hS.lit (cs := encRule r) Tryz.underlying28 (sz := 5) (by kernel_rfl) (z := .agg (encRule noRule).toArray) (by kernel_rfl) rfl rfl (by rfl) (fun bl w' hbl hS => ?_)
       have hx : Slc w' 5 encRule (fun _ => True) (some ⟨bl, 0, none⟩) 1 [r] := Slc.of_blk codRule (hS.blk 4 rfl) rfl (by decide) (fun _ _ => trivial) rfl
       conv=>whnf
       refine hS.appS codRule 2 Tryz.underlying28 (bytes := 32) (by kernel_rfl) (z := .agg (encRule noRule).toArray) (by kernel_rfl) rfl rfl hx (by unfold maxLen; omega) (by omega) (fun a2 c2 w' hS => ?_)
       rw [hrs] at hS ⊢
       replace hS : St w No w' [blk b3 30 (encF 0 0), ownL 9 1 encT (.slice (some ⟨bw, 0, none⟩) n d) ts, ownL 98 5 encRule (.slice a2 (k + 1) c2) (rs ++ [r]), blk b7 98 (encRule r), blk bl 98 (encRule r)] := hS
       conv=>whnf
       refine rgO ?_
       conv=>whnf
       refine LoopE.mk ⟨_, [(6, .int .i64 ((k + 1 : Nat) : Int)), (5, _), (4, _), (3, _)], ?_, ⟨rfl, rfl, rfl, rfl, trivial⟩, ⟨k + 1, a2, c2, rs ++ [r], rfl, rfl, by omega, by rw [List.length_append, hrs]; rfl, by rw [hi, hst]; simp, hS.keep 3⟩⟩
       omega
   · obtain rfl : k = n := by omega
     rw [List.drop_of_length_le (by omega)] at hi
     have e1 : rulesOfL ts 0 = (rs, none) := by
       rw [hi]
       simp [rulesOfL]
     rw [e1]
     dsimp only
     have hx := ownL_slc (G := fun _ => True) codRule (hS.get 2 rfl) fun _ _ => trivial
     conv=>whnf
     refine (rulesFault_ok hx).mono ?_
     rintro v w3 ⟨rfl, hx'⟩
     replace hS := hS.no hx'
     have hcd := fault_code rs
     generalize faultL rs = F at hS hcd ⊢
     obtain ⟨fc, fa⟩ := F
     dsimp only
     conv=>whnf
     refine hS.new (fun b9 w' hb9 hS => ?_)
     conv=>whnf
     refine hS.st 3 rfl (lbO rfl) rfl (fun w' hS => ?_)
     replace hS : St w No w' [blk b3 30 (encF 0 0), ownL 9 1 encT (.slice (some ⟨bw, 0, none⟩) k d) ts, ownL 98 5 encRule (.slice a k c) rs, blk b9 30 (encF fc fa)] := hS
     have hne := hS.ne 3 0 rfl rfl (by decide)
     conv=>whnf
     refine hS.ld 3 rfl rfl ?_
     conv=>whnf
     refine brD (fun h5 => ?_) (fun h5 => ?_)
     · rw [if_pos (by omega)]
       conv=>whnf
       (refine drawS tabOk mixed [] ((· = b3)) [0, 1, 2] (by kernel_rfl) ?_; rintro w1 rfl; replace hS := hS.drew)
       have hK := hS.ref (· = b3)
       conv=>whnf
       refine hS.laXF 3 rfl rfl hne ?_
       conv=>whnf
       refine hS.stK hK 0 rfl (lbO rfl) rfl rfl (fun w' hK hS => KeepC.mk hK ?_)
       replace hS : St w No w' [blk b3 30 (encF fc fa), ownL 9 1 encT (.slice (some ⟨bw, 0, none⟩) k d) ts, ownL 98 5 encRule (.slice a k c) rs, blk b9 30 (encF fc fa)] := hS
       conv=>whnf
       refine hS.laX 0 rfl rfl ?_
       repeat' ((conv => whnf); first | refine RetC.mk ?_ | refine NzC.mk (by decide) ?_ | refine rgO ?_ | refine ixO ?_ | refine brD ?_ ?_ <;> (intro) | refine brND ?_ ?_ <;> (intro) | refine brN ?_ ?_ <;> (intro) | refine brI ?_ ?_ <;> (intro))
       exact ⟨⟨none, 0, rfl, nilR_holds _, fun g hg => by cases hg⟩, hS.ext⟩
     · obtain rfl : fc = 0 := by omega
       obtain rfl : fa = -1 := by
         dsimp only at hcd
         omega
       rw [if_neg (by omega)]
       conv=>whnf
       (refine drawS tabOk mixed [] ((· = b3)) [0, 1, 2, 3] (by kernel_rfl) ?_; rintro w1 rfl; replace hS := hS.drew)
       have hK := hS.ref (· = b3)
       conv=>whnf
       refine hS.laXF 3 rfl rfl hne ?_
       conv=>whnf
       refine hS.stK hK 0 rfl (lbO rfl) rfl rfl (fun w' hK hS => KeepC.mk hK ?_)
       replace hS : St w No w' [blk b3 30 (encF 0 (-1)), ownL 9 1 encT (.slice (some ⟨bw, 0, none⟩) k d) ts, ownL 98 5 encRule (.slice a k c) rs, blk b9 30 (encF 0 (-1))] := hS
       conv=>whnf
       refine hS.laX 0 rfl rfl ?_
       repeat' ((conv => whnf); first | refine RetC.mk ?_ | refine NzC.mk (by decide) ?_ | refine rgO ?_ | refine ixO ?_ | refine brD ?_ ?_ <;> (intro) | refine brND ?_ ?_ <;> (intro) | refine brN ?_ ?_ <;> (intro) | refine brI ?_ ?_ <;> (intro))
       rw [← hrs]
       exact ⟨⟨a, c, rfl, by rw [hrs]; exact hS.get 2 rfl, by rw [hrs]; exact hS.freshAt 2 rfl⟩, hS.ext⟩
end Go.Proofs.YtogjajjdaoihdaaGreatDoor

namespace Go.Proofs.YtogjajjdaoihdaaGreatDoor
set_option maxRecDepth 20000
open Go Ev
def RuleS.pr (r : RuleS) : List Pr := [.bool r.allow, .bool r.out, .int r.proto, .int r.low, .int r.top]
section
variable {w : World} {G G' : RuleS → Prop} {a b : Option Addr} {n m c d : Nat} {xs ys : List RuleS}
end
end Go.Proofs.YtogjajjdaoihdaaGreatDoor

namespace Go.Proofs.YtogjajjdaoihdaaGreatDoor.Ev
set_option maxRecDepth 20000
open Go Go.ChangeShapes Go.WideShapes Go.ChangeAt Go.RowKit

theorem laidMetH_layVars {P : Program} {w0 w' : World} {L : List (String × DataW Unit)} {fuel : Nat}
   (hh : w'.heap = (w0.layVars P (L.filter fun x => x.2.handleName?.isNone)).heap)
   (hf : w0.layFits P (L.filter fun x => x.2.handleName?.isNone) [] = true)
   (hi : w0.layIfaces P (L.filter fun x => x.2.handleName?.isNone) w' = true)
   (hH : (L.filter fun x => x.2.handleName?.isSome && x.2.funcsIn?.isNone).all (handleAtB P w') = true)
   (hF : funcsRun P w' fuel ((funcsListed L).map (·.1)) = some ((funcsListed L).map (·.2.funcsOut))) : laidMetH P L w' := by
 refine laidMetH_of_parts3 (fuel := fuel) ?_ hH hF
 generalize (L.filter fun x => x.2.handleName?.isNone) = laid at hh hf hi ⊢
 have e1 : (laid.filter fun x => (laid.map (·.1)).contains x.1) = laid := List.filter_eq_self.2 fun x hx => List.contains_iff_mem.2 (List.mem_map.2 ⟨x, hx, rfl⟩)
 have e2 : (laid.filter fun x => !(laid.map (·.1)).contains x.1) = [] := List.filter_eq_nil_iff.2 fun x hx => by rw [List.contains_iff_mem.2 (List.mem_map.2 ⟨x, hx, rfl⟩)]; simp
 exact laidMet_layVars (w0 := w0) (laid.map (·.1)) [] (by rw [e1]; exact hh) (by rw [e1]; exact hf) (by rw [e1]; exact hi) (by rw [e2]; exact LaidIn.none)
theorem law_liftedS {C : Checked} {f : FuncId} {fn : Func} {s : ChangeSpec} {tb : TypeId} (L : List (String × DataW Unit)) (os : Os) (started : os.Started) (H : Type) (enc : TypeId × Value → H)
   (own : ownKnob C.prog.godebug = none) (hbody : fn.body.isNone = false) (noInit : C.prog.inits.idxOf? f = none) (hfn : C.prog.funcs[f]? = some fn) (hvars : s.vars = [])
   (hs : ∀ ds : List (DataW H), ds.length = fn.params.toList.length → (s.fn H (ds ++ [])).results = [.lit (.bool true)] ∧ (s.fn H (ds ++ [])).args = ds ∧ (s.fn H (ds ++ [])).vars = [])
   (hres : fn.resultTypes = #[tb]) (hbool : C.prog.underlying tb = some .bool) (hlaid : laidOutB C.prog = true) (hread : (fn.params.toList.all fun t => C.prog.readableRec t && decide (t < C.prog.types.size)) = true)
   (witness : ∃ (w : World) (tape : Tape) (i : Input), w.os = os ∧ (w.forCall tape i).Shaped C.prog ∧ i.vars = [] ∧ Input.okWide C.prog (w.forCall tape i) .any w.heap.size f i ∧
     ((s.pre enc C.prog fn [] false (w.forCall tape i).memory i.args ∧ laidMetH C.prog L (w.forCall tape i).memory) ∧ sizedMet enc C.prog fn (OpenSpec.ofChange s) false (w.forCall tape i).memory i.args) ∧ ({} : Assume).holds C.prog (lone (Frame.enter C.prog f i.args .normal) [] (w.forCall tape i)))
   (walk : ∀ (W : World) (args : List Value), W.ShapedOpen C.prog → ArgsOk C.prog W fn.params.toList args → laidMetH C.prog L W → CallC C.prog f args.toArray W fun v w' => v = .bool true ∧ Ext No W w') :
   ReturnsInHanded {} C os f .any (fun w args => (s.pre enc C.prog fn [] false w args ∧ laidMetH C.prog L w) ∧ sizedMet enc C.prog fn (OpenSpec.ofChange s) false w args) (s.post enc C.prog fn false true false false) := by
 refine returnsInHanded_of_calls own started noInit witness ?_
 intro w tape i _ hsh _ hok hpre _
 obtain ⟨_, _, _, fn', hfn', _, _, _, _, hval⟩ := hok
 obtain rfl : fn' = fn := Option.some.inj (hfn'.symm.trans hfn)
 obtain ⟨⟨⟨ds, gs, before, hw, _⟩, hx⟩, _⟩ := hpre
 have hW := DataW.Whole.of_heap (w' := w.forCall tape i) (by rfl) hw
 have hL : laidMetH C.prog L (w.forCall tape i) := hx.of_heap (by rfl)
 generalize w.forCall tape i = W at hval hW hL hsh ⊢
 generalize w.heap.size = base at hval
 generalize i.args = args at hval hW ⊢
 have goal : Calls C.prog f args W fun e W' => ∃ v, e = .returned v ∧ s.post enc C.prog fn' false true false false W args v W' := by
   have hW' := hW
   obtain ⟨p, q, hA, hV, rfl, hfz, hnd⟩ := hW
   rw [hvars] at hV
   obtain ⟨rfl, rfl⟩ := trodVars_none hV
   have hok := argsOk_of fn'.params.toList args.toList ds p (fun j t v ht hv => hval j t v (by simpa using ht) (by simpa using hv)) hA
   have hlen : ds.length = fn'.params.toList.length := by
     have : ∀ (ts : List TypeId) (vs : List Value) (ds : List (DataW H)) (ps : List MemPlace), DataW.TrodAll enc C.prog W 0 (fun _ => true) true ts vs ds ps → ds.length = ts.length := by
       intro ts
       induction ts with
       | nil => intro vs ds ps h; cases vs <;> cases ds <;> simp_all [DataW.TrodAll]
       | cons t ts ih =>
         intro vs ds ps h
         obtain ⟨v, vs', d, ds', p, q, rfl, rfl, rfl, h1, h2⟩ := trodAll_cons h
         simp [ih _ _ _ h2]
     exact this _ _ _ _ hA
   have hc := (walk W args.toList hsh hok hL).calls hfn hbody
   rw [Array.toArray_toList] at hc
   refine hc.mono fun e W' ⟨v, he, hv, hext⟩ => ?_
   subst he hv
   obtain ⟨e1, e2, e3⟩ := hs ds hlen
   have hlt : ∀ x ∈ p, x.block < W.heap.size := fun x hx => hW'.lt x (by simpa using hx)
   refine ⟨_, rfl, ds, [], p ++ [], [], p, [], hW', ?_, ?_, ?_, hext.below.frame _, fun h => by cases h⟩
   · rw [e1, hres]
     exact trodAll_mk1 (shut_bool hbool true)
   · rw [e2]
     exact trodAll_ext hlaid hext.below _ _ _ _ hread hA hlt
   · rw [hvars, e3]
     rfl
 refine goal.mono fun e W' ⟨v, he, hp⟩ => ?_
 subst he
 exact ChangeSpec.post_blind hp
end Go.Proofs.YtogjajjdaoihdaaGreatDoor.Ev
namespace Go.Proofs.YtogjajjdaoihdaaGreatDoor
open Go Ev Go.RowKit
theorem maxL_of {W : World} (h : W.ShapedOpen Tryz.prog) : MaxL W :=
 cell_of_shapedOpen_int (g := 14) (t := 3) (zero := #[.int .i64 0]) h (of_decide_eq_true (by kernel_rfl)) (by kernel_rfl) rfl (by kernel_rfl) (by kernel_rfl) Tryz.underlying3
theorem sent_of {n : String} {text : List UInt8} {L : List (String × DataW Unit)} {W : World} {g : Nat} (hl : laidMetH Tryz.prog L W) (hm : (n, .iface "*errors.errorString" (.ptr (.agg [.lit (.string text)]))) ∈ L)
   (hg : Tryz.prog.globalNamed n = some g) (ht : (Tryz.prog.globals[g]?).map (·.type) = some 25) : ∃ e, W.cell? ⟨g, 0, none⟩ = some e ∧ (e = .nilIface ∨ ∃ t p, e = .iface t p) := by
 obtain ⟨f, hf⟩ : ∃ f : Field, Tryz.prog.underlying 440 = some (.struct #[f]) ∧ f.type = 9 ∧ f.offset = 0 := ⟨_, Tryz.underlying440, rfl, rfl⟩
 obtain ⟨a, h1, _⟩ := sentinel1 (laid_one hl hm rfl) hg ht Tryz.underlying25 errStr_only Tryz.underlying438 hf.1 hf.2.1 hf.2.2 Tryz.underlying9 (by kernel_rfl) (by kernel_rfl)
 exact ⟨_, h1, .inr ⟨_, _, rfl⟩⟩
def synB : List UInt8 := [105, 110, 118, 97, 108, 105, 100, 32, 115, 121, 110, 116, 97, 120]
def rngB : List UInt8 := [118, 97, 108, 117, 101, 32, 111, 117, 116, 32, 111, 102, 32, 114, 97, 110, 103, 101]
theorem numV_of {L : List (String × DataW Unit)} {W : World} (hl : laidMetH Tryz.prog L W) (h1 : ("strconv.ErrSyntax", .iface "*errors.errorString" (.ptr (.agg [.lit (.string synB)]))) ∈ L) (h2 : ("strconv.ErrRange", .iface "*errors.errorString" (.ptr (.agg [.lit (.string rngB)]))) ∈ L) : NumV W :=
 ⟨sent_of hl h1 (by kernel_rfl) (by kernel_rfl), sent_of hl h2 (by kernel_rfl) (by kernel_rfl)⟩
end Go.Proofs.YtogjajjdaoihdaaGreatDoor

namespace Go.Proofs.YtogjajjdaoihdaaGreatDoor
set_option maxRecDepth 20000
open Go Ev Go.RowKit
theorem errRow_text (k : Nat) (h0 : 1 ≤ k) (h1 : k < 12) : ∃ n, errRow (H := Unit) k = (n, .iface "*errors.errorString" (.ptr (.agg [.lit (.string (errT k))]))) := by
 have hk : k = 1 ∨ k = 2 ∨ k = 3 ∨ k = 4 ∨ k = 5 ∨ k = 6 ∨ k = 7 ∨ k = 8 ∨ k = 9 ∨ k = 10 ∨ k = 11 := by omega
 rcases hk with rfl | rfl | rfl | rfl | rfl | rfl | rfl | rfl | rfl | rfl | rfl <;> exact ⟨_, rfl⟩
theorem sentinelT {P : Program} {n nm : String} {text : List UInt8} {W : World} {g : Nat} {ti tp te ts : TypeId} {ms : Array (String × TypeId)} {f : Field}
   (h : laidMet P [(n, .iface nm (.ptr (.agg [.lit (.string text)])))] W)
   (hg : P.globalNamed n = some g) (ht : (P.globals[g]?).map (·.type) = some ti) (hi : P.underlying ti = some (.interface ms)) (hrow : ∀ u, P.typeName? 3 u = some nm → u = tp)
   (hp : P.underlying tp = some (.pointer te)) (he : P.underlying te = some (.struct #[f])) (hft : f.type = ts) (hfo : f.offset = 0) (hs : P.underlying ts = some .string) (hc : P.cellsOf te = 1) (hcs : P.cellsOf ts = 1) :
   ∃ (a : Addr) (s : ByteArray), W.cell? ⟨g, 0, none⟩ = some (.iface tp (.pointer (some a))) ∧ W.cell? a = some (.string s) ∧ s.data.toList = text := by
 obtain ⟨ps, ⟨g0, t0, cs0, f0, p0, q0, hg0, ht0, hv0, hd0, _, e0⟩, _, hrows⟩ := h
 obtain rfl := Option.some.inj (hg.symm.trans hg0)
 obtain rfl := Option.some.inj (ht.symm.trans ht0)
 subst e0
 obtain ⟨l0⟩ := cs0
 have ok0 : ∀ u v, l0 = [.iface u v] → Value.okWide P W .any 0 u v := fun u v e => by
   subst e
   exact (hrows g 0 (by simp [MemPlace.row])).2 u v (by simpa using World.var?_cell hg0 hv0 0)
 obtain ⟨a0, s0, rfl, hc0, hs0, hz0, rfl⟩ := errorString_of_trod hi hrow hp he hft hfo hs hc hcs hd0 ok0
 exact ⟨a0, s0, by simpa using World.var?_cell hg0 hv0 0, hc0, hs0⟩
theorem texts_of {L : List (String × DataW Unit)} {W : World} {E : Nat → Addr} {n : Nat} (hl : laidMetH Tryz.prog L W) (hE : Errs W E n allErrs) (hm : ∀ k ∈ allErrs, errRow k ∈ L) (k : Nat) (h0 : 1 ≤ k) (h1 : k < 12) : W.cell? ⟨(E k).block, (E k).off, (E k).spot⟩ = some (.string (bs (errT k))) := by
 have hk : k ∈ allErrs := by
   have hk : k = 1 ∨ k = 2 ∨ k = 3 ∨ k = 4 ∨ k = 5 ∨ k = 6 ∨ k = 7 ∨ k = 8 ∨ k = 9 ∨ k = 10 ∨ k = 11 := by omega
   rcases hk with rfl | rfl | rfl | rfl | rfl | rfl | rfl | rfl | rfl | rfl | rfl <;> decide
 obtain ⟨nm, hf⟩ := errRow_text k h0 h1
 have hin := hm k hk
 obtain ⟨hg, ht⟩ := errRow_named k
 rw [hf] at hin hg
 obtain ⟨f, hf1, hf2, hf3⟩ : ∃ f : Field, Tryz.prog.underlying 440 = some (.struct #[f]) ∧ f.type = 9 ∧ f.offset = 0 := ⟨_, Tryz.underlying440, rfl, rfl⟩
 obtain ⟨a, s, g1, g2, g3⟩ := sentinelT (laid_one hl hin rfl) hg ht Tryz.underlying25 errStr_only Tryz.underlying438 hf1 hf2 hf3 Tryz.underlying9 (by kernel_rfl) (by kernel_rfl)
 have h2 := hE.at_ k (List.contains_iff_mem.2 hk)
 rw [h2] at g1
 simp only [Option.some.injEq, Value.iface.injEq, Value.pointer.injEq, true_and] at g1
 rw [show (⟨(E k).block, (E k).off, (E k).spot⟩ : Addr) = E k from rfl, g1, g2]
 obtain ⟨l, rfl⟩ := bs_of s
 have h3 : l = errT k := by simpa [bs] using g3
 rw [h3]
theorem dec_str {w : World} {d : Nat} : Dec Tryz.prog w (d + 1) 9 encT (fun _ => True) := by
 intro cs h
 unfold Shp at h
 rw [Tryz.underlying9] at h
 obtain ⟨s, rfl, _⟩ := h
 obtain ⟨l, rfl⟩ := bs_of s
 exact ⟨l, rfl, trivial⟩
end Go.Proofs.YtogjajjdaoihdaaGreatDoor

namespace Go.Proofs.YtogjajjdaoihdaaGreatDoor
set_option maxRecDepth 20000
open Go Ev
def tickB : List UInt8 := [116, 105, 99, 107]
def FitL (t : List UInt8) : Prop := t.length ≤ 60 ∧ ¬ (10 < t.length ∧ t.take 4 = tickB)
theorem runS_at : ∀ {l : List (List UInt8)} {i : Nat} {t : List UInt8} (W : WorldS), l[i]? = some t → (runS l W).1[i]? = some (tellS t (runS (l.take i) W).2).1
 | [], _, _, _, h => by simp at h
 | x :: l, 0, t, W, h => by
   cases h
   rfl
 | x :: l, i + 1, t, W, h => runS_at (l := l) (i := i) (tellS x W).2 (by simpa using h)
section
variable {E : Nat → Addr} {w : World}
set_option maxHeartbeats 4000000 in
theorem scriptReads_ok (W : World) (B : Base E W) (s : List UInt8) {a : Option Addr} {n c : Nat} {xs : List (List UInt8)} (hx : Slc W 1 encT (fun _ => True) a n xs) :
   CallC Tryz.prog 3 #[.string (bs s), .slice a n c] W fun v w' => v = .bool true ∧ Ext No W w' := by
 have hl := hx.len
 have hsz := bs_size s
 refine fn_intro tabOk Tryz.func3 (by kernel_rfl) rfl Tryz.ntmps3 (lbO rfl) ?_
 have hS := St.start W No
 conv=>whnf
 refine (hello_ok B (Ext.refl _ _)).mono ?_
 rintro v w1 ⟨rfl, hx1⟩
 replace hS := hS.no hx1
 conv=>whnf
 refine brD (fun h1 => ?_) (fun h1 => ?_)
 · repeat' ((conv => whnf); first | refine RetC.mk ?_ | refine NzC.mk (by decide) ?_ | refine rgO ?_ | refine ixO ?_ | refine brD ?_ ?_ <;> (intro) | refine brND ?_ ?_ <;> (intro) | refine brN ?_ ?_ <;> (intro) | refine brI ?_ ?_ <;> (intro))
   exact ⟨rfl, hS.ext⟩
 conv=>whnf
 refine brD (fun h2 => ?_) (fun h2 => ?_)
 · repeat' ((conv => whnf); first | refine RetC.mk ?_ | refine NzC.mk (by decide) ?_ | refine rgO ?_ | refine ixO ?_ | refine brD ?_ ?_ <;> (intro) | refine brND ?_ ?_ <;> (intro) | refine brN ?_ ?_ <;> (intro) | refine brI ?_ ?_ <;> (intro))
   exact ⟨rfl, hS.ext⟩
 have hS := hS.addNil 9 1 encT
 conv=>whnf
 refine loopR tabOk (fun σ w' q => ∃ (k : Nat) (a' : Option Addr) (c' : Nat), σ = [(7, .int .i64 (k : Int)), (6, .slice a' k c'), (1, .slice a n c), (0, .string (bs s))] ∧ q = n - k ∧ k ≤ n ∧ (∀ t ∈ xs.take k, FitL t) ∧ St W No w' [ownL 9 1 encT (.slice a' k c') (xs.take k)])
   (σ' := [(7, .int .i64 ((0 : Nat) : Int)), (6, .slice none 0 0), (1, .slice a n c), (0, .string (bs s))]) (n := n) ⟨rfl, rfl, rfl, rfl, trivial⟩ ⟨0, none, 0, rfl, rfl, Nat.zero_le _, (fun t ht => by cases ht), hS⟩ ?_
 clear hS
 rintro _ w2 q ⟨k, a', c', rfl, rfl, hk, hfit, hS⟩
 conv=>whnf
 refine brD (fun h3 => ?_) (fun h3 => ?_)
 · obtain ⟨b0, o0, t, hat, _, rfl, hb0, hc⟩ := hx.at (k := k) (by omega)
   have htz := bs_size t
   have hlk : (xs.take k).length = k := by rw [List.length_take]; omega
   have hst : xs.take (k + 1) = xs.take k ++ [t] := by rw [List.take_add_one, hat]; rfl
   conv=>whnf
   refine ixO ?_
   conv=>whnf
   refine hS.ldr (hc 0 _ rfl) id ?_
   conv=>whnf
   refine brD (fun h4 => ?_) (fun h4 => ?_)
   · repeat' ((conv => whnf); first | refine RetC.mk ?_ | refine NzC.mk (by decide) ?_ | refine rgO ?_ | refine ixO ?_ | refine brD ?_ ?_ <;> (intro) | refine brND ?_ ?_ <;> (intro) | refine brN ?_ ?_ <;> (intro) | refine brI ?_ ?_ <;> (intro))
     exact ⟨rfl, hS.ext⟩
   have h60 : t.length ≤ 60 := by omega
   conv=>whnf
   refine ixO ?_
   conv=>whnf
   refine hS.ldr (hc 0 _ rfl) id ?_
   conv=>whnf
   refine brD (fun h5 => ?_) (fun h5 => ?_)
   · (conv => whnf)
     refine ixO ?_
     conv=>whnf
     refine hS.ldr (hc 0 _ rfl) id ?_
     conv=>whnf
     refine slcTo (b := 4) Tryz.underlying9 rfl (by omega) rfl ?_
     conv=>whnf
     refine eqS2 (b := tickB) ?_
     conv=>whnf
     refine brD (fun h6 => ?_) (fun h6 => ?_)
     · repeat' ((conv => whnf); first | refine RetC.mk ?_ | refine NzC.mk (by decide) ?_ | refine rgO ?_ | refine ixO ?_ | refine brD ?_ ?_ <;> (intro) | refine brND ?_ ?_ <;> (intro) | refine brN ?_ ?_ <;> (intro) | refine brI ?_ ?_ <;> (intro))
       exact ⟨rfl, hS.ext⟩
     have hf : FitL t := ⟨h60, fun h => h6 h.2⟩
     conv=>whnf
     refine ixO ?_
     conv=>whnf
     refine hS.ldr (hc 0 _ rfl) id ?_
     conv=>whnf
     refine hS.lit Tryz.underlying22 (sz := 1) (by kernel_rfl) (z := .string (bs [])) (by kernel_rfl) rfl rfl (cs := encT t) (by rfl) (fun b9 w4 hb9 hS => ?_)
     conv=>whnf
     refine hS.appS codT 0 (ys := [t]) (G := fun _ => True) Tryz.underlying22 (bytes := 16) (by kernel_rfl) (z := .string (bs [])) (by kernel_rfl) rfl rfl (Slc.of_blk codT (hS.blk 1 rfl) rfl (by simp) (fun _ _ => trivial) rfl) (by rw [hlk]; unfold maxLen; omega) (by rw [hlk]; omega) (fun a2 c2 w5 hS => ?_)
     rw [hlk] at hS ⊢
     replace hS := hS.keep 1
     replace hS : St W No w5 [ownL 9 1 encT (.slice a2 (k + 1) c2) (xs.take (k + 1))] := by rw [hst]; exact hS
     conv=>whnf
     refine rgO ?_
     conv=>whnf
     refine LoopE.mk ⟨_, [(7, .int .i64 ((k + 1 : Nat) : Int)), (6, _), (1, _), (0, _)], ?_, ⟨rfl, rfl, rfl, rfl, trivial⟩, ⟨k + 1, a2, c2, rfl, rfl, by omega, by rw [hst]; exact fun u hu => (List.mem_append.1 hu).elim (hfit u) fun h => by obtain rfl := List.mem_singleton.1 h; exact hf, hS⟩⟩
     omega
   · have hf : FitL t := ⟨h60, fun h => h5 (by omega)⟩
     conv=>whnf
     refine ixO ?_
     conv=>whnf
     refine hS.ldr (hc 0 _ rfl) id ?_
     conv=>whnf
     refine hS.lit Tryz.underlying22 (sz := 1) (by kernel_rfl) (z := .string (bs [])) (by kernel_rfl) rfl rfl (cs := encT t) (by rfl) (fun b9 w4 hb9 hS => ?_)
     conv=>whnf
     refine hS.appS codT 0 (ys := [t]) (G := fun _ => True) Tryz.underlying22 (bytes := 16) (by kernel_rfl) (z := .string (bs [])) (by kernel_rfl) rfl rfl (Slc.of_blk codT (hS.blk 1 rfl) rfl (by simp) (fun _ _ => trivial) rfl) (by rw [hlk]; unfold maxLen; omega) (by rw [hlk]; omega) (fun a2 c2 w5 hS => ?_)
     rw [hlk] at hS ⊢
     replace hS := hS.keep 1
     replace hS : St W No w5 [ownL 9 1 encT (.slice a2 (k + 1) c2) (xs.take (k + 1))] := by rw [hst]; exact hS
     conv=>whnf
     refine rgO ?_
     conv=>whnf
     refine LoopE.mk ⟨_, [(7, .int .i64 ((k + 1 : Nat) : Int)), (6, _), (1, _), (0, _)], ?_, ⟨rfl, rfl, rfl, rfl, trivial⟩, ⟨k + 1, a2, c2, rfl, rfl, by omega, by rw [hst]; exact fun u hu => (List.mem_append.1 hu).elim (hfit u) fun h => by obtain rfl := List.mem_singleton.1 h; exact hf, hS⟩⟩
     omega
 obtain rfl : k = n := by omega
 rw [List.take_of_length_le (by omega)] at hS hfit
 have hown : Slc w2 1 encT (fun t => t.length ≤ 100000) a' k xs := ownL_slc codT (hS.get 0 rfl) (fun t ht => by have := (hfit t ht).1; omega)
 have hcost : costS xs ≤ 40000000 := by
   have h1 := costS_small (ls := xs) fun t ht => (hfit t ht).2
   rw [hl] at h1
   omega
 conv=>whnf
 refine (srun_ok B hS.ext s (by omega) hown hcost).mono ?_
 rintro v w3 ⟨⟨a2, c2, e, rfl, hf, ho, hfr⟩, hx3⟩
 have h12 := rulesOfS_code s
 have hfine := @rulesOfS_fine s
 by_cases hbig : 100 < k
 · have hsc : scriptS s xs = ((2, -1), []) := if_pos (by omega)
   rw [hsc] at hf ⊢
   obtain rfl : e = errV E 2 := by
     rcases hf with ⟨_, h⟩ | ⟨h, _⟩
     · exact h
     · exact absurd h (by decide)
   replace hS := hS.no hx3
   clear ho hfr hf
   conv=>whnf
   refine (rrulesOf_ok s (by omega) _).mono ?_
   rintro v w4 ⟨⟨a5, c5, rfl, _, _⟩, hx4⟩
   replace hS := hS.no hx4
   conv=>whnf
   refine hS.new (fun b11 w5 hb11 hS => ?_)
   conv=>whnf
   refine hS.st 1 rfl (lbO rfl) rfl (fun w6 hS => ?_)
   conv=>whnf
   refine brD (fun _ => ?_) (fun h => absurd h (by omega))
   conv=>whnf
   refine (bare_ok 2 _).mono ?_
   rintro v w7 ⟨rfl, hx7⟩
   replace hS := hS.no hx7
   conv=>whnf
   refine hS.st 1 rfl (lbO rfl) rfl (fun w8 hS => ?_)
   replace hS := hS.as (H' := [_, blk b11 30 (encF 2 (-1))]) rfl
   conv=>whnf
   refine hS.ld 1 rfl rfl ?_
   conv=>whnf
   refine hS.laX 1 rfl rfl ?_
   conv=>whnf
   refine (faulted3_ok (w0 := W) (.inl ⟨rfl, rfl⟩) (fun h => by cases h) (by decide) (B.errs.ext hS.ext fun _ h => h.elim) (B.hand.ext hS.ext)).mono ?_
   rintro v w9 ⟨rfl, hx9⟩
   replace hS := hS.no hx9
   repeat' ((conv => whnf); first | refine RetC.mk ?_ | refine NzC.mk (by decide) ?_ | refine rgO ?_ | refine ixO ?_ | refine brD ?_ ?_ <;> (intro) | refine brND ?_ ?_ <;> (intro) | refine brN ?_ ?_ <;> (intro) | refine brI ?_ ?_ <;> (intro))
   exact ⟨rfl, hS.ext⟩
 by_cases hcode : (rulesOfS s).2.1 = 0
 case neg =>
   have hsc : scriptS s xs = ((rulesOfS s).2, []) := (if_neg (by omega)).trans (if_pos hcode)
   rw [hsc] at hf ⊢
   replace hS := hS.fault hx3 hf
   clear ho hfr hf
   conv=>whnf
   refine (rrulesOf_ok s (by omega) _).mono ?_
   rintro v w4 ⟨⟨a5, c5, rfl, _, _⟩, hx4⟩
   replace hS := hS.no hx4
   conv=>whnf
   refine hS.new (fun b11 w5 hb11 hS => ?_)
   conv=>whnf
   refine hS.st 2 rfl (lbO rfl) rfl (fun w6 hS => ?_)
   generalize rulesOfS s = R at h12 hcode hS ⊢
   obtain ⟨rs, fc, fa⟩ := R
   dsimp only at h12 hcode hS ⊢
   replace hS := hS.as (H' := [_, fvE E e fc fa, blk b11 30 (encF fc fa)]) rfl
   conv=>whnf
   refine brD (fun h => absurd h (by omega)) (fun _ => ?_)
   conv=>whnf
   refine hS.ld 2 rfl rfl ?_
   conv=>whnf
   refine brD (fun _ => ?_) (fun h => absurd h (by omega))
   conv=>whnf
   refine hS.laX 2 rfl rfl ?_
   conv=>whnf
   obtain ⟨w0, hff⟩ := hS.get 1 rfl
   refine (faulted3_ok hff (fun h => absurd h hcode) h12 (B.errs.ext hS.ext fun _ h => h.elim) (B.hand.ext hS.ext)).mono ?_
   rintro v w9 ⟨rfl, hx9⟩
   replace hS := hS.no hx9
   repeat' ((conv => whnf); first | refine RetC.mk ?_ | refine NzC.mk (by decide) ?_ | refine rgO ?_ | refine ixO ?_ | refine brD ?_ ?_ <;> (intro) | refine brND ?_ ?_ <;> (intro) | refine brN ?_ ?_ <;> (intro) | refine brI ?_ ?_ <;> (intro))
   exact ⟨rfl, hS.ext⟩
 have hsc : scriptS s xs = ((0, -1), (runS xs (.born (rulesOfS s).1)).1) := (if_neg (by omega)).trans (if_neg (fun h => h hcode))
 rw [hsc] at ho hf hfr ⊢
 obtain rfl : e = .nilIface := by
   rcases hf with ⟨_, h⟩ | ⟨_, h, _⟩
   · exact h
   · exact absurd h (Nat.lt_irrefl 0)
 have hol : (runS xs (.born (rulesOfS s).1)).1.length = k := by rw [runS_len]; exact hl
 have hra := fun (i : Nat) (t : List UInt8) (h : xs[i]? = some t) => runS_at (.born (rulesOfS s).1) h
 replace hS := hS.made hx3 ownL_local ho (Fresh.foot hfr)
 clear ho hfr hf hsc
 dsimp only at hS ⊢
 generalize WorldS.born (rulesOfS s).1 = Wb at hS hol hra ⊢
 generalize hout : (runS xs Wb).1 = outs at hS hol hra ⊢
 rw [hol] at hS ⊢
 conv=>whnf
 refine (rrulesOf_ok s (by omega) _).mono ?_
 rintro v w4 ⟨⟨a5, c5, rfl, _, _⟩, hx4⟩
 replace hS := hS.no hx4
 conv=>whnf
 refine hS.new (fun b11 w5 hb11 hS => ?_)
 conv=>whnf
 refine hS.st 2 rfl (lbO rfl) rfl (fun w6 hS => ?_)
 generalize rulesOfS s = R at h12 hcode hS ⊢
 obtain ⟨rs, fc, fa⟩ := R
 dsimp only at h12 hcode hS ⊢
 subst hcode
 replace hS := hS.as (H' := [_, ownL 9 1 encT (.slice a2 k c2) outs, blk b11 30 (encF 0 fa)]) rfl
 conv=>whnf
 refine brD (fun h => absurd h (by omega)) (fun _ => ?_)
 conv=>whnf
 refine hS.ld 2 rfl rfl ?_
 conv=>whnf
 refine brND (fun h => absurd rfl h) (fun _ => ?_)
 conv=>whnf
 refine loopR tabOk (fun σ w' q => ∃ i : Nat, σ = [(12, .int .i64 (i : Int)), (8, .slice a2 k c2), (1, .slice a k c)] ∧ q = k - i ∧ i ≤ k ∧ St W No w' [ownL 9 1 encT (.slice a' k c') xs, ownL 9 1 encT (.slice a2 k c2) outs])
   (σ' := [(12, .int .i64 ((0 : Nat) : Int)), (8, .slice a2 k c2), (1, .slice a k c)]) (n := k) ⟨rfl, rfl, rfl, trivial⟩ ⟨0, rfl, rfl, Nat.zero_le _, hS.keep 2⟩ ?_
 clear hS
 rintro _ w10 q ⟨i, rfl, rfl, hi, hS⟩
 conv=>whnf
 refine brD (fun h6 => ?_) (fun h6 => ?_)
 · obtain ⟨b0, o0, t, hat, _, rfl, hb0, hc⟩ := hx.at (k := i) (by omega)
   have htz := bs_size t
   have hoat := hra i t hat
   have ht60 := (hfit t (List.mem_of_getElem? hat)).1
   obtain ⟨V, hV⟩ : ∃ V, V = (runS (xs.take i) Wb).2 := ⟨_, rfl⟩
   rw [← hV] at hoat
   obtain ⟨ot, hot⟩ : ∃ ot, ot = (tellS t V).1 := ⟨_, rfl⟩
   have hne : ot ≠ [] := by rw [hot]; exact tellS_ne t V
   rw [← hot] at hoat
   clear hV
   conv=>whnf
   refine loopR tabOk (fun σ w' q => ∃ j : Nat, σ = [(14, .int .i64 (j : Int)), (13, .string (bs (t.take j))), (12, .int .i64 (i : Int)), (8, .slice a2 k c2), (1, .slice (some ⟨b0, o0, none⟩) k c)] ∧ q = t.length - j ∧ j ≤ t.length ∧ (∀ l < j, t[l]? ≠ some 32) ∧ St W No w' [ownL 9 1 encT (.slice a' k c') xs, ownL 9 1 encT (.slice a2 k c2) outs])
     (σ' := [(14, .int .i64 ((0 : Nat) : Int)), (13, .string (bs (t.take 0))), (12, .int .i64 (i : Int)), (8, .slice a2 k c2), (1, .slice (some ⟨b0, o0, none⟩) k c)]) (n := t.length) ⟨rfl, rfl, rfl, rfl, rfl, trivial⟩ ⟨0, rfl, rfl, Nat.zero_le _, (fun l hl => by omega), hS⟩ ?_
   clear hS
   rintro _ w11 q ⟨j, rfl, rfl, hk, hno, hS⟩
   conv=>whnf
   refine ixO ?_
   conv=>whnf
   refine hS.ldr (hc 0 _ rfl) id ?_
   conv=>whnf
   refine brD (fun h7 => ?_) (fun h7 => ?_)
   · have hjl : j < t.length := by omega
     obtain ⟨x, hx2⟩ : ∃ x, t[j]? = some x := ⟨_, List.getElem?_eq_getElem hjl⟩
     conv=>whnf
     refine ixO ?_
     conv=>whnf
     refine hS.ldr (hc 0 _ rfl) id ?_
     conv=>whnf
     refine idxS Tryz.underlying9 rfl hx2 ?_
     conv=>whnf
     refine neC ?_
     have hxc : ((x.toNat : Int) != 32) = !decide (x = 32) := by
       rw [Bool.eq_iff_iff]
       simp only [bne_iff_ne, ne_eq, Bool.not_eq_true', decide_eq_false_iff_not]
       exact ⟨fun h e => h (by rw [e]; rfl), fun h e => h (UInt8.toNat_inj.1 (by show x.toNat = 32; omega))⟩
     rw [hxc]
     conv=>whnf
     refine brND (fun h8 => ?_) (fun h8 => ?_)
     · have hsl : (t.drop j).take (j + 1 - j) = [x] := by
         rw [Nat.add_sub_cancel_left, List.drop_eq_getElem_cons hjl, List.take_succ_cons, List.take_zero]
         rw [List.getElem?_eq_getElem hjl] at hx2
         rw [Option.some.inj hx2]
       have htj : t.take (j + 1) = t.take j ++ [x] := by rw [List.take_add_one, hx2]; rfl
       conv=>whnf
       refine ixO ?_
       conv=>whnf
       refine hS.ldr (hc 0 _ rfl) id ?_
       conv=>whnf
       refine rgO ?_
       conv=>whnf
       refine slcS (a := j) (b := j + 1) Tryz.underlying9 rfl (by omega) (by omega) (by omega) hsl ?_
       conv=>whnf
       refine addS (by rw [List.length_take]; simp; omega) ?_
       rw [← htj]
       conv=>whnf
       refine rgO ?_
       conv=>whnf
       refine LoopE.mk ⟨_, [(14, .int .i64 ((j + 1 : Nat) : Int)), (13, _), (12, _), (8, _), (1, _)], ?_, ⟨rfl, rfl, rfl, rfl, rfl, trivial⟩, ⟨j + 1, rfl, rfl, by omega, ?_, hS⟩⟩
       · omega
       · intro l hlt
         by_cases e : l = j
         · subst e
           rw [hx2]
           exact fun h => h8 (Option.some.inj h)
         · exact hno l (by omega)
     · have he : j = t.length ∨ t[j]? = some 32 := .inr (by rw [hx2, h8])
       obtain ⟨g1, g2, g3⟩ := word_at hk hno he
       have htk : (t.take j).length = j := by rw [List.length_take]; omega
       have hzw : (bs (t.take j)).size = j := by rw [bs_size, htk]
       conv=>whnf
       refine (formOf_ok (t.take j) _).mono ?_
       rintro v w' ⟨rfl, rfl⟩
       have hzz := ownL_slc (G := fun _ => True) codT (hS.get 1 rfl) (fun _ _ => trivial)
       obtain ⟨b8, o8, y8, hy8, _, hae, _, hc8⟩ := hzz.at (k := i) (by omega)
       obtain rfl : ot = y8 := Option.some.inj (hoat.symm.trans hy8)
       cases hae
       cases hfw : formW (t.take j) with
       | some f =>
         conv=>whnf
         (refine drawS tabOk mixed [] No [0, 1, 2, 3, 4, 5, 6, 7, 8, 9, 10, 11, 12, 13, 14, 15, 16] (by kernel_rfl) ?_; rintro w1 rfl; replace hS := hS.drew)
         conv=>whnf
         refine ixO ?_
         conv=>whnf
         refine Ev.ldFc (hc8 0 _ rfl) id ?_
         conv=>whnf
         refine eqS2 (b := []) ?_
         rw [decide_eq_false hne]
         conv=>whnf
         refine eqS2 (b := wInside) ?_
         conv=>whnf
         refine brD (fun h7 => ?_) (fun h7 => ?_)
         · skip
           conv=>whnf
           refine ixO ?_
           conv=>whnf
           refine hS.ldr (hc 0 _ rfl) id ?_
           conv=>whnf
           refine brD (fun h9 => ?_) (fun h9 => ?_)
           · (conv => whnf)
             refine ixO ?_
             conv=>whnf
             refine hS.ldr (hc 0 _ rfl) id ?_
             conv=>whnf
             refine rgO ?_
             conv=>whnf
             refine slcFrom (b := j + 1) Tryz.underlying9 (by omega) (by omega) rfl ?_
             conv=>whnf
             refine (packetRead_ok (t.drop (j + 1)) (by rw [List.length_drop]; omega) _ (B.maxl.no hS.ext) (B.numv.no hS.ext) (B.pow.no hS.ext) (B.names.no hS.ext) ((B.errs.ext hS.ext fun _ h => h.elim).sub rfl)).mono ?_
             rintro v w9 ⟨⟨p, kp, rfl, hp⟩, hx9⟩
             replace hS := hS.no hx9
             have hrd := readPk_of hp
             conv=>whnf
             refine hS.new (fun b18 w' hb18 hS => ?_)
             conv=>whnf
             refine hS.st 2 rfl (lbO rfl) rfl (fun w' hS => ?_)
             replace hS := hS.keep 2
             cases kp with
             | true =>
               conv=>whnf
               (refine drawS tabOk mixed [] No [0, 1, 2, 3, 4, 5, 6, 7, 8, 9] (by kernel_rfl) ?_; rintro w1 rfl; replace hS := hS.drew)
               conv=>whnf
               refine rgO ?_
               conv=>whnf
               refine LoopE.mk ⟨_, [(12, .int .i64 ((i + 1 : Nat) : Int)), (8, _), (1, _)], ?_, ⟨rfl, rfl, rfl, trivial⟩, ⟨i + 1, rfl, rfl, by omega, hS.keep 2⟩⟩
               omega
             | false =>
               have hbad : ot = errT 1 := by
                 rw [hot]
                 refine tell_bad V ?_
                 rw [play_in (g1.trans h7), g2]
                 exact carry_bad hrd
               have hzz := ownL_slc (G := fun _ => True) codT (hS.get 1 rfl) (fun _ _ => trivial)
               obtain ⟨b8, o8, y8, hy8, _, hae, _, hc8⟩ := hzz.at (k := i) (by omega)
               obtain rfl : ot = y8 := Option.some.inj (hoat.symm.trans hy8)
               cases hae
               subst hbad
               conv=>whnf
               (refine drawS tabOk mixed [] No [0, 1, 2, 3, 4, 5, 6, 7, 8, 9] (by kernel_rfl) ?_; rintro w1 rfl; replace hS := hS.drew)
               conv=>whnf
               refine ixO ?_
               conv=>whnf
               refine Ev.ldFc (hc8 0 _ rfl) id ?_
               conv=>whnf
               refine (errorText_ok 1 (by omega) (by omega) _).mono ?_
               rintro v w10 ⟨rfl, hx10⟩
               replace hS := hS.no hx10
               refine KeepC.mk hx10 ?_
               conv=>whnf
               refine neS2 ?_
               rw [decide_eq_true (rfl : errT 1 = errT 1)]
               conv=>whnf
               refine rgO ?_
               conv=>whnf
               refine LoopE.mk ⟨_, [(12, .int .i64 ((i + 1 : Nat) : Int)), (8, _), (1, _)], ?_, ⟨rfl, rfl, rfl, trivial⟩, ⟨i + 1, rfl, rfl, by omega, hS.keep 2⟩⟩
               omega
           · have hnil : (.string (bs []) : Value) = .string (bs (t.drop (j + 1))) := by
               rw [List.drop_eq_nil_of_le (by omega)]
             conv=>whnf
             rw [show (Value.string { data := #[] }) = .string (bs (t.drop (j + 1))) from hnil]
             conv=>whnf
             refine (packetRead_ok (t.drop (j + 1)) (by rw [List.length_drop]; omega) _ (B.maxl.no hS.ext) (B.numv.no hS.ext) (B.pow.no hS.ext) (B.names.no hS.ext) ((B.errs.ext hS.ext fun _ h => h.elim).sub rfl)).mono ?_
             rintro v w9 ⟨⟨p, kp, rfl, hp⟩, hx9⟩
             replace hS := hS.no hx9
             have hrd := readPk_of hp
             conv=>whnf
             refine hS.new (fun b18 w' hb18 hS => ?_)
             conv=>whnf
             refine hS.st 2 rfl (lbO rfl) rfl (fun w' hS => ?_)
             replace hS := hS.keep 2
             cases kp with
             | true =>
               conv=>whnf
               (refine drawS tabOk mixed [] No [0, 1, 2, 3, 4, 5, 6, 7, 8, 9] (by kernel_rfl) ?_; rintro w1 rfl; replace hS := hS.drew)
               conv=>whnf
               refine rgO ?_
               conv=>whnf
               refine LoopE.mk ⟨_, [(12, .int .i64 ((i + 1 : Nat) : Int)), (8, _), (1, _)], ?_, ⟨rfl, rfl, rfl, trivial⟩, ⟨i + 1, rfl, rfl, by omega, hS.keep 2⟩⟩
               omega
             | false =>
               have hbad : ot = errT 1 := by
                 rw [hot]
                 refine tell_bad V ?_
                 rw [play_in (g1.trans h7), g2]
                 exact carry_bad hrd
               have hzz := ownL_slc (G := fun _ => True) codT (hS.get 1 rfl) (fun _ _ => trivial)
               obtain ⟨b8, o8, y8, hy8, _, hae, _, hc8⟩ := hzz.at (k := i) (by omega)
               obtain rfl : ot = y8 := Option.some.inj (hoat.symm.trans hy8)
               cases hae
               subst hbad
               conv=>whnf
               (refine drawS tabOk mixed [] No [0, 1, 2, 3, 4, 5, 6, 7, 8, 9] (by kernel_rfl) ?_; rintro w1 rfl; replace hS := hS.drew)
               conv=>whnf
               refine ixO ?_
               conv=>whnf
               refine Ev.ldFc (hc8 0 _ rfl) id ?_
               conv=>whnf
               refine (errorText_ok 1 (by omega) (by omega) _).mono ?_
               rintro v w10 ⟨rfl, hx10⟩
               replace hS := hS.no hx10
               refine KeepC.mk hx10 ?_
               conv=>whnf
               refine neS2 ?_
               rw [decide_eq_true (rfl : errT 1 = errT 1)]
               conv=>whnf
               refine rgO ?_
               conv=>whnf
               refine LoopE.mk ⟨_, [(12, .int .i64 ((i + 1 : Nat) : Int)), (8, _), (1, _)], ?_, ⟨rfl, rfl, rfl, trivial⟩, ⟨i + 1, rfl, rfl, by omega, hS.keep 2⟩⟩
               omega
         conv=>whnf
         refine eqS2 (b := wOutside) ?_
         conv=>whnf
         refine brD (fun h8 => ?_) (fun h8 => ?_)
         · skip
           conv=>whnf
           refine ixO ?_
           conv=>whnf
           refine hS.ldr (hc 0 _ rfl) id ?_
           conv=>whnf
           refine brD (fun h9 => ?_) (fun h9 => ?_)
           · (conv => whnf)
             refine ixO ?_
             conv=>whnf
             refine hS.ldr (hc 0 _ rfl) id ?_
             conv=>whnf
             refine rgO ?_
             conv=>whnf
             refine slcFrom (b := j + 1) Tryz.underlying9 (by omega) (by omega) rfl ?_
             conv=>whnf
             refine (packetRead_ok (t.drop (j + 1)) (by rw [List.length_drop]; omega) _ (B.maxl.no hS.ext) (B.numv.no hS.ext) (B.pow.no hS.ext) (B.names.no hS.ext) ((B.errs.ext hS.ext fun _ h => h.elim).sub rfl)).mono ?_
             rintro v w9 ⟨⟨p, kp, rfl, hp⟩, hx9⟩
             replace hS := hS.no hx9
             have hrd := readPk_of hp
             conv=>whnf
             refine hS.new (fun b18 w' hb18 hS => ?_)
             conv=>whnf
             refine hS.st 2 rfl (lbO rfl) rfl (fun w' hS => ?_)
             replace hS := hS.keep 2
             cases kp with
             | true =>
               conv=>whnf
               (refine drawS tabOk mixed [] No [0, 1, 2, 3, 4, 5, 6, 7, 8, 9] (by kernel_rfl) ?_; rintro w1 rfl; replace hS := hS.drew)
               conv=>whnf
               refine rgO ?_
               conv=>whnf
               refine LoopE.mk ⟨_, [(12, .int .i64 ((i + 1 : Nat) : Int)), (8, _), (1, _)], ?_, ⟨rfl, rfl, rfl, trivial⟩, ⟨i + 1, rfl, rfl, by omega, hS.keep 2⟩⟩
               omega
             | false =>
               have hbad : ot = errT 1 := by
                 rw [hot]
                 refine tell_bad V ?_
                 rw [play_out (fun e => h7 (g1.symm.trans e)) (g1.trans h8), g2]
                 exact carry_bad hrd
               have hzz := ownL_slc (G := fun _ => True) codT (hS.get 1 rfl) (fun _ _ => trivial)
               obtain ⟨b8, o8, y8, hy8, _, hae, _, hc8⟩ := hzz.at (k := i) (by omega)
               obtain rfl : ot = y8 := Option.some.inj (hoat.symm.trans hy8)
               cases hae
               subst hbad
               conv=>whnf
               (refine drawS tabOk mixed [] No [0, 1, 2, 3, 4, 5, 6, 7, 8, 9] (by kernel_rfl) ?_; rintro w1 rfl; replace hS := hS.drew)
               conv=>whnf
               refine ixO ?_
               conv=>whnf
               refine Ev.ldFc (hc8 0 _ rfl) id ?_
               conv=>whnf
               refine (errorText_ok 1 (by omega) (by omega) _).mono ?_
               rintro v w10 ⟨rfl, hx10⟩
               replace hS := hS.no hx10
               refine KeepC.mk hx10 ?_
               conv=>whnf
               refine neS2 ?_
               rw [decide_eq_true (rfl : errT 1 = errT 1)]
               conv=>whnf
               refine rgO ?_
               conv=>whnf
               refine LoopE.mk ⟨_, [(12, .int .i64 ((i + 1 : Nat) : Int)), (8, _), (1, _)], ?_, ⟨rfl, rfl, rfl, trivial⟩, ⟨i + 1, rfl, rfl, by omega, hS.keep 2⟩⟩
               omega
           · have hnil : (.string (bs []) : Value) = .string (bs (t.drop (j + 1))) := by
               rw [List.drop_eq_nil_of_le (by omega)]
             conv=>whnf
             rw [show (Value.string { data := #[] }) = .string (bs (t.drop (j + 1))) from hnil]
             conv=>whnf
             refine (packetRead_ok (t.drop (j + 1)) (by rw [List.length_drop]; omega) _ (B.maxl.no hS.ext) (B.numv.no hS.ext) (B.pow.no hS.ext) (B.names.no hS.ext) ((B.errs.ext hS.ext fun _ h => h.elim).sub rfl)).mono ?_
             rintro v w9 ⟨⟨p, kp, rfl, hp⟩, hx9⟩
             replace hS := hS.no hx9
             have hrd := readPk_of hp
             conv=>whnf
             refine hS.new (fun b18 w' hb18 hS => ?_)
             conv=>whnf
             refine hS.st 2 rfl (lbO rfl) rfl (fun w' hS => ?_)
             replace hS := hS.keep 2
             cases kp with
             | true =>
               conv=>whnf
               (refine drawS tabOk mixed [] No [0, 1, 2, 3, 4, 5, 6, 7, 8, 9] (by kernel_rfl) ?_; rintro w1 rfl; replace hS := hS.drew)
               conv=>whnf
               refine rgO ?_
               conv=>whnf
               refine LoopE.mk ⟨_, [(12, .int .i64 ((i + 1 : Nat) : Int)), (8, _), (1, _)], ?_, ⟨rfl, rfl, rfl, trivial⟩, ⟨i + 1, rfl, rfl, by omega, hS.keep 2⟩⟩
               omega
             | false =>
               have hbad : ot = errT 1 := by
                 rw [hot]
                 refine tell_bad V ?_
                 rw [play_out (fun e => h7 (g1.symm.trans e)) (g1.trans h8), g2]
                 exact carry_bad hrd
               have hzz := ownL_slc (G := fun _ => True) codT (hS.get 1 rfl) (fun _ _ => trivial)
               obtain ⟨b8, o8, y8, hy8, _, hae, _, hc8⟩ := hzz.at (k := i) (by omega)
               obtain rfl : ot = y8 := Option.some.inj (hoat.symm.trans hy8)
               cases hae
               subst hbad
               conv=>whnf
               (refine drawS tabOk mixed [] No [0, 1, 2, 3, 4, 5, 6, 7, 8, 9] (by kernel_rfl) ?_; rintro w1 rfl; replace hS := hS.drew)
               conv=>whnf
               refine ixO ?_
               conv=>whnf
               refine Ev.ldFc (hc8 0 _ rfl) id ?_
               conv=>whnf
               refine (errorText_ok 1 (by omega) (by omega) _).mono ?_
               rintro v w10 ⟨rfl, hx10⟩
               replace hS := hS.no hx10
               refine KeepC.mk hx10 ?_
               conv=>whnf
               refine neS2 ?_
               rw [decide_eq_true (rfl : errT 1 = errT 1)]
               conv=>whnf
               refine rgO ?_
               conv=>whnf
               refine LoopE.mk ⟨_, [(12, .int .i64 ((i + 1 : Nat) : Int)), (8, _), (1, _)], ?_, ⟨rfl, rfl, rfl, trivial⟩, ⟨i + 1, rfl, rfl, by omega, hS.keep 2⟩⟩
               omega
         conv=>whnf
         refine rgO ?_
         conv=>whnf
         refine LoopE.mk ⟨_, [(12, .int .i64 ((i + 1 : Nat) : Int)), (8, _), (1, _)], ?_, ⟨rfl, rfl, rfl, trivial⟩, ⟨i + 1, rfl, rfl, by omega, hS.keep 2⟩⟩
         omega
       | none =>
         obtain ⟨f1, f2, f3⟩ := formW_none hfw
         have hbad : ot = errT 1 := by
           rw [hot]
           exact tell_bad V (play_none (by rw [g1]; exact f1) (by rw [g1]; exact f2) (by rw [g3]; exact f3))
         conv=>whnf
         (refine drawS tabOk mixed [] No [0, 1, 2, 3, 4, 5, 6, 7, 8, 9, 10, 11, 12, 13, 14, 15, 16] (by kernel_rfl) ?_; rintro w1 rfl; replace hS := hS.drew)
         conv=>whnf
         refine ixO ?_
         conv=>whnf
         refine Ev.ldFc (hc8 0 _ rfl) id ?_
         conv=>whnf
         refine eqS2 (b := []) ?_
         rw [decide_eq_false hne]
         conv=>whnf
         refine ixO ?_
         conv=>whnf
         refine Ev.ldFc (hc8 0 _ rfl) id ?_
         conv=>whnf
         refine (errorText_ok 1 (by omega) (by omega) _).mono ?_
         rintro v w10 ⟨rfl, hx10⟩
         replace hS := hS.no hx10
         refine KeepC.mk hx10 ?_
         conv=>whnf
         refine neS2 ?_
         rw [decide_eq_true hbad]
         conv=>whnf
         refine eqS2 (b := wInside) ?_
         rw [decide_eq_false f1]
         conv=>whnf
         refine eqS2 (b := wOutside) ?_
         rw [decide_eq_false f2]
         conv=>whnf
         refine rgO ?_
         conv=>whnf
         refine LoopE.mk ⟨_, [(12, .int .i64 ((i + 1 : Nat) : Int)), (8, _), (1, _)], ?_, ⟨rfl, rfl, rfl, trivial⟩, ⟨i + 1, rfl, rfl, by omega, hS.keep 2⟩⟩
         omega
   · have he : j = t.length ∨ t[j]? = some 32 := .inl (by omega)
     obtain ⟨g1, g2, g3⟩ := word_at hk hno he
     have htk : (t.take j).length = j := by rw [List.length_take]; omega
     have hzw : (bs (t.take j)).size = j := by rw [bs_size, htk]
     conv=>whnf
     refine (formOf_ok (t.take j) _).mono ?_
     rintro v w' ⟨rfl, rfl⟩
     have hzz := ownL_slc (G := fun _ => True) codT (hS.get 1 rfl) (fun _ _ => trivial)
     obtain ⟨b8, o8, y8, hy8, _, hae, _, hc8⟩ := hzz.at (k := i) (by omega)
     obtain rfl : ot = y8 := Option.some.inj (hoat.symm.trans hy8)
     cases hae
     cases hfw : formW (t.take j) with
     | some f =>
       conv=>whnf
       (refine drawS tabOk mixed [] No [0, 1, 2, 3, 4, 5, 6, 7, 8, 9, 10, 11, 12, 13, 14, 15, 16] (by kernel_rfl) ?_; rintro w1 rfl; replace hS := hS.drew)
       conv=>whnf
       refine ixO ?_
       conv=>whnf
       refine Ev.ldFc (hc8 0 _ rfl) id ?_
       conv=>whnf
       refine eqS2 (b := []) ?_
       rw [decide_eq_false hne]
       conv=>whnf
       refine eqS2 (b := wInside) ?_
       conv=>whnf
       refine brD (fun h7 => ?_) (fun h7 => ?_)
       · skip
         conv=>whnf
         refine ixO ?_
         conv=>whnf
         refine hS.ldr (hc 0 _ rfl) id ?_
         conv=>whnf
         refine brD (fun h9 => ?_) (fun h9 => ?_)
         · (conv => whnf)
           refine ixO ?_
           conv=>whnf
           refine hS.ldr (hc 0 _ rfl) id ?_
           conv=>whnf
           refine rgO ?_
           conv=>whnf
           refine slcFrom (b := j + 1) Tryz.underlying9 (by omega) (by omega) rfl ?_
           conv=>whnf
           refine (packetRead_ok (t.drop (j + 1)) (by rw [List.length_drop]; omega) _ (B.maxl.no hS.ext) (B.numv.no hS.ext) (B.pow.no hS.ext) (B.names.no hS.ext) ((B.errs.ext hS.ext fun _ h => h.elim).sub rfl)).mono ?_
           rintro v w9 ⟨⟨p, kp, rfl, hp⟩, hx9⟩
           replace hS := hS.no hx9
           have hrd := readPk_of hp
           conv=>whnf
           refine hS.new (fun b18 w' hb18 hS => ?_)
           conv=>whnf
           refine hS.st 2 rfl (lbO rfl) rfl (fun w' hS => ?_)
           replace hS := hS.keep 2
           cases kp with
           | true =>
             conv=>whnf
             (refine drawS tabOk mixed [] No [0, 1, 2, 3, 4, 5, 6, 7, 8, 9] (by kernel_rfl) ?_; rintro w1 rfl; replace hS := hS.drew)
             conv=>whnf
             refine rgO ?_
             conv=>whnf
             refine LoopE.mk ⟨_, [(12, .int .i64 ((i + 1 : Nat) : Int)), (8, _), (1, _)], ?_, ⟨rfl, rfl, rfl, trivial⟩, ⟨i + 1, rfl, rfl, by omega, hS.keep 2⟩⟩
             omega
           | false =>
             have hbad : ot = errT 1 := by
               rw [hot]
               refine tell_bad V ?_
               rw [play_in (g1.trans h7), g2]
               exact carry_bad hrd
             have hzz := ownL_slc (G := fun _ => True) codT (hS.get 1 rfl) (fun _ _ => trivial)
             obtain ⟨b8, o8, y8, hy8, _, hae, _, hc8⟩ := hzz.at (k := i) (by omega)
             obtain rfl : ot = y8 := Option.some.inj (hoat.symm.trans hy8)
             cases hae
             subst hbad
             conv=>whnf
             (refine drawS tabOk mixed [] No [0, 1, 2, 3, 4, 5, 6, 7, 8, 9] (by kernel_rfl) ?_; rintro w1 rfl; replace hS := hS.drew)
             conv=>whnf
             refine ixO ?_
             conv=>whnf
             refine Ev.ldFc (hc8 0 _ rfl) id ?_
             conv=>whnf
             refine (errorText_ok 1 (by omega) (by omega) _).mono ?_
             rintro v w10 ⟨rfl, hx10⟩
             replace hS := hS.no hx10
             refine KeepC.mk hx10 ?_
             conv=>whnf
             refine neS2 ?_
             rw [decide_eq_true (rfl : errT 1 = errT 1)]
             conv=>whnf
             refine rgO ?_
             conv=>whnf
             refine LoopE.mk ⟨_, [(12, .int .i64 ((i + 1 : Nat) : Int)), (8, _), (1, _)], ?_, ⟨rfl, rfl, rfl, trivial⟩, ⟨i + 1, rfl, rfl, by omega, hS.keep 2⟩⟩
             omega
         · have hnil : (.string (bs []) : Value) = .string (bs (t.drop (j + 1))) := by
             rw [List.drop_eq_nil_of_le (by omega)]
           conv=>whnf
           rw [show (Value.string { data := #[] }) = .string (bs (t.drop (j + 1))) from hnil]
           conv=>whnf
           refine (packetRead_ok (t.drop (j + 1)) (by rw [List.length_drop]; omega) _ (B.maxl.no hS.ext) (B.numv.no hS.ext) (B.pow.no hS.ext) (B.names.no hS.ext) ((B.errs.ext hS.ext fun _ h => h.elim).sub rfl)).mono ?_
           rintro v w9 ⟨⟨p, kp, rfl, hp⟩, hx9⟩
           replace hS := hS.no hx9
           have hrd := readPk_of hp
           conv=>whnf
           refine hS.new (fun b18 w' hb18 hS => ?_)
           conv=>whnf
           refine hS.st 2 rfl (lbO rfl) rfl (fun w' hS => ?_)
           replace hS := hS.keep 2
           cases kp with
           | true =>
             conv=>whnf
             (refine drawS tabOk mixed [] No [0, 1, 2, 3, 4, 5, 6, 7, 8, 9] (by kernel_rfl) ?_; rintro w1 rfl; replace hS := hS.drew)
             conv=>whnf
             refine rgO ?_
             conv=>whnf
             refine LoopE.mk ⟨_, [(12, .int .i64 ((i + 1 : Nat) : Int)), (8, _), (1, _)], ?_, ⟨rfl, rfl, rfl, trivial⟩, ⟨i + 1, rfl, rfl, by omega, hS.keep 2⟩⟩
             omega
           | false =>
             have hbad : ot = errT 1 := by
               rw [hot]
               refine tell_bad V ?_
               rw [play_in (g1.trans h7), g2]
               exact carry_bad hrd
             have hzz := ownL_slc (G := fun _ => True) codT (hS.get 1 rfl) (fun _ _ => trivial)
             obtain ⟨b8, o8, y8, hy8, _, hae, _, hc8⟩ := hzz.at (k := i) (by omega)
             obtain rfl : ot = y8 := Option.some.inj (hoat.symm.trans hy8)
             cases hae
             subst hbad
             conv=>whnf
             (refine drawS tabOk mixed [] No [0, 1, 2, 3, 4, 5, 6, 7, 8, 9] (by kernel_rfl) ?_; rintro w1 rfl; replace hS := hS.drew)
             conv=>whnf
             refine ixO ?_
             conv=>whnf
             refine Ev.ldFc (hc8 0 _ rfl) id ?_
             conv=>whnf
             refine (errorText_ok 1 (by omega) (by omega) _).mono ?_
             rintro v w10 ⟨rfl, hx10⟩
             replace hS := hS.no hx10
             refine KeepC.mk hx10 ?_
             conv=>whnf
             refine neS2 ?_
             rw [decide_eq_true (rfl : errT 1 = errT 1)]
             conv=>whnf
             refine rgO ?_
             conv=>whnf
             refine LoopE.mk ⟨_, [(12, .int .i64 ((i + 1 : Nat) : Int)), (8, _), (1, _)], ?_, ⟨rfl, rfl, rfl, trivial⟩, ⟨i + 1, rfl, rfl, by omega, hS.keep 2⟩⟩
             omega
       conv=>whnf
       refine eqS2 (b := wOutside) ?_
       conv=>whnf
       refine brD (fun h8 => ?_) (fun h8 => ?_)
       · skip
         conv=>whnf
         refine ixO ?_
         conv=>whnf
         refine hS.ldr (hc 0 _ rfl) id ?_
         conv=>whnf
         refine brD (fun h9 => ?_) (fun h9 => ?_)
         · (conv => whnf)
           refine ixO ?_
           conv=>whnf
           refine hS.ldr (hc 0 _ rfl) id ?_
           conv=>whnf
           refine rgO ?_
           conv=>whnf
           refine slcFrom (b := j + 1) Tryz.underlying9 (by omega) (by omega) rfl ?_
           conv=>whnf
           refine (packetRead_ok (t.drop (j + 1)) (by rw [List.length_drop]; omega) _ (B.maxl.no hS.ext) (B.numv.no hS.ext) (B.pow.no hS.ext) (B.names.no hS.ext) ((B.errs.ext hS.ext fun _ h => h.elim).sub rfl)).mono ?_
           rintro v w9 ⟨⟨p, kp, rfl, hp⟩, hx9⟩
           replace hS := hS.no hx9
           have hrd := readPk_of hp
           conv=>whnf
           refine hS.new (fun b18 w' hb18 hS => ?_)
           conv=>whnf
           refine hS.st 2 rfl (lbO rfl) rfl (fun w' hS => ?_)
           replace hS := hS.keep 2
           cases kp with
           | true =>
             conv=>whnf
             (refine drawS tabOk mixed [] No [0, 1, 2, 3, 4, 5, 6, 7, 8, 9] (by kernel_rfl) ?_; rintro w1 rfl; replace hS := hS.drew)
             conv=>whnf
             refine rgO ?_
             conv=>whnf
             refine LoopE.mk ⟨_, [(12, .int .i64 ((i + 1 : Nat) : Int)), (8, _), (1, _)], ?_, ⟨rfl, rfl, rfl, trivial⟩, ⟨i + 1, rfl, rfl, by omega, hS.keep 2⟩⟩
             omega
           | false =>
             have hbad : ot = errT 1 := by
               rw [hot]
               refine tell_bad V ?_
               rw [play_out (fun e => h7 (g1.symm.trans e)) (g1.trans h8), g2]
               exact carry_bad hrd
             have hzz := ownL_slc (G := fun _ => True) codT (hS.get 1 rfl) (fun _ _ => trivial)
             obtain ⟨b8, o8, y8, hy8, _, hae, _, hc8⟩ := hzz.at (k := i) (by omega)
             obtain rfl : ot = y8 := Option.some.inj (hoat.symm.trans hy8)
             cases hae
             subst hbad
             conv=>whnf
             (refine drawS tabOk mixed [] No [0, 1, 2, 3, 4, 5, 6, 7, 8, 9] (by kernel_rfl) ?_; rintro w1 rfl; replace hS := hS.drew)
             conv=>whnf
             refine ixO ?_
             conv=>whnf
             refine Ev.ldFc (hc8 0 _ rfl) id ?_
             conv=>whnf
             refine (errorText_ok 1 (by omega) (by omega) _).mono ?_
             rintro v w10 ⟨rfl, hx10⟩
             replace hS := hS.no hx10
             refine KeepC.mk hx10 ?_
             conv=>whnf
             refine neS2 ?_
             rw [decide_eq_true (rfl : errT 1 = errT 1)]
             conv=>whnf
             refine rgO ?_
             conv=>whnf
             refine LoopE.mk ⟨_, [(12, .int .i64 ((i + 1 : Nat) : Int)), (8, _), (1, _)], ?_, ⟨rfl, rfl, rfl, trivial⟩, ⟨i + 1, rfl, rfl, by omega, hS.keep 2⟩⟩
             omega
         · have hnil : (.string (bs []) : Value) = .string (bs (t.drop (j + 1))) := by
             rw [List.drop_eq_nil_of_le (by omega)]
           conv=>whnf
           rw [show (Value.string { data := #[] }) = .string (bs (t.drop (j + 1))) from hnil]
           conv=>whnf
           refine (packetRead_ok (t.drop (j + 1)) (by rw [List.length_drop]; omega) _ (B.maxl.no hS.ext) (B.numv.no hS.ext) (B.pow.no hS.ext) (B.names.no hS.ext) ((B.errs.ext hS.ext fun _ h => h.elim).sub rfl)).mono ?_
           rintro v w9 ⟨⟨p, kp, rfl, hp⟩, hx9⟩
           replace hS := hS.no hx9
           have hrd := readPk_of hp
           conv=>whnf
           refine hS.new (fun b18 w' hb18 hS => ?_)
           conv=>whnf
           refine hS.st 2 rfl (lbO rfl) rfl (fun w' hS => ?_)
           replace hS := hS.keep 2
           cases kp with
           | true =>
             conv=>whnf
             (refine drawS tabOk mixed [] No [0, 1, 2, 3, 4, 5, 6, 7, 8, 9] (by kernel_rfl) ?_; rintro w1 rfl; replace hS := hS.drew)
             conv=>whnf
             refine rgO ?_
             conv=>whnf
             refine LoopE.mk ⟨_, [(12, .int .i64 ((i + 1 : Nat) : Int)), (8, _), (1, _)], ?_, ⟨rfl, rfl, rfl, trivial⟩, ⟨i + 1, rfl, rfl, by omega, hS.keep 2⟩⟩
             omega
           | false =>
             have hbad : ot = errT 1 := by
               rw [hot]
               refine tell_bad V ?_
               rw [play_out (fun e => h7 (g1.symm.trans e)) (g1.trans h8), g2]
               exact carry_bad hrd
             have hzz := ownL_slc (G := fun _ => True) codT (hS.get 1 rfl) (fun _ _ => trivial)
             obtain ⟨b8, o8, y8, hy8, _, hae, _, hc8⟩ := hzz.at (k := i) (by omega)
             obtain rfl : ot = y8 := Option.some.inj (hoat.symm.trans hy8)
             cases hae
             subst hbad
             conv=>whnf
             (refine drawS tabOk mixed [] No [0, 1, 2, 3, 4, 5, 6, 7, 8, 9] (by kernel_rfl) ?_; rintro w1 rfl; replace hS := hS.drew)
             conv=>whnf
             refine ixO ?_
             conv=>whnf
             refine Ev.ldFc (hc8 0 _ rfl) id ?_
             conv=>whnf
             refine (errorText_ok 1 (by omega) (by omega) _).mono ?_
             rintro v w10 ⟨rfl, hx10⟩
             replace hS := hS.no hx10
             refine KeepC.mk hx10 ?_
             conv=>whnf
             refine neS2 ?_
             rw [decide_eq_true (rfl : errT 1 = errT 1)]
             conv=>whnf
             refine rgO ?_
             conv=>whnf
             refine LoopE.mk ⟨_, [(12, .int .i64 ((i + 1 : Nat) : Int)), (8, _), (1, _)], ?_, ⟨rfl, rfl, rfl, trivial⟩, ⟨i + 1, rfl, rfl, by omega, hS.keep 2⟩⟩
             omega
       conv=>whnf
       refine rgO ?_
       conv=>whnf
       refine LoopE.mk ⟨_, [(12, .int .i64 ((i + 1 : Nat) : Int)), (8, _), (1, _)], ?_, ⟨rfl, rfl, rfl, trivial⟩, ⟨i + 1, rfl, rfl, by omega, hS.keep 2⟩⟩
       omega
     | none =>
       obtain ⟨f1, f2, f3⟩ := formW_none hfw
       have hbad : ot = errT 1 := by
         rw [hot]
         exact tell_bad V (play_none (by rw [g1]; exact f1) (by rw [g1]; exact f2) (by rw [g3]; exact f3))
       conv=>whnf
       (refine drawS tabOk mixed [] No [0, 1, 2, 3, 4, 5, 6, 7, 8, 9, 10, 11, 12, 13, 14, 15, 16] (by kernel_rfl) ?_; rintro w1 rfl; replace hS := hS.drew)
       conv=>whnf
       refine ixO ?_
       conv=>whnf
       refine Ev.ldFc (hc8 0 _ rfl) id ?_
       conv=>whnf
       refine eqS2 (b := []) ?_
       rw [decide_eq_false hne]
       conv=>whnf
       refine ixO ?_
       conv=>whnf
       refine Ev.ldFc (hc8 0 _ rfl) id ?_
       conv=>whnf
       refine (errorText_ok 1 (by omega) (by omega) _).mono ?_
       rintro v w10 ⟨rfl, hx10⟩
       replace hS := hS.no hx10
       refine KeepC.mk hx10 ?_
       conv=>whnf
       refine neS2 ?_
       rw [decide_eq_true hbad]
       conv=>whnf
       refine eqS2 (b := wInside) ?_
       rw [decide_eq_false f1]
       conv=>whnf
       refine eqS2 (b := wOutside) ?_
       rw [decide_eq_false f2]
       conv=>whnf
       refine rgO ?_
       conv=>whnf
       refine LoopE.mk ⟨_, [(12, .int .i64 ((i + 1 : Nat) : Int)), (8, _), (1, _)], ?_, ⟨rfl, rfl, rfl, trivial⟩, ⟨i + 1, rfl, rfl, by omega, hS.keep 2⟩⟩
       omega
 · repeat' ((conv => whnf); first | refine RetC.mk ?_ | refine NzC.mk (by decide) ?_ | refine rgO ?_ | refine ixO ?_ | refine brD ?_ ?_ <;> (intro) | refine brND ?_ ?_ <;> (intro) | refine brN ?_ ?_ <;> (intro) | refine brI ?_ ?_ <;> (intro))
   exact ⟨rfl, hS.ext⟩
theorem scriptReads_walk {E : Nat → Addr} (W : World) (args : List Value) (hE : Errs W E W.heap.size allErrs) (hh : Handle W) (ht : Pow10 W) (hP : Protos W) (hM : MaxL W) (hV : NumV W) (hN : NamesV W) (hT : ∀ k, 1 ≤ k → k < 12 → W.cell? ⟨(E k).block, (E k).off, (E k).spot⟩ = some (.string (bs (errT k)))) (ha : ArgsOk Tryz.prog W [9, 22] args) :
   CallC Tryz.prog 3 args.toArray W fun v w' => v = .bool true ∧ Ext No W w' := by
 obtain ⟨v0, args, rfl, h0, ha⟩ := ha.cons
 obtain ⟨v1, args, rfl, h1, ha⟩ := ha.cons
 obtain rfl := ha.nil
 obtain ⟨s, rfl⟩ := arg_str Tryz.underlying9 h0
 obtain ⟨l, rfl⟩ := bs_of s
 obtain ⟨a0, n0, c0, xs, rfl, hx, _⟩ := arg_slice (d := 1) (sz := 1) Tryz.underlying22 (by kernel_rfl) (by decide) dec_str h1
 exact scriptReads_ok W ⟨hE, hh, ht, hP, hM, hV, hN, hT⟩ l hx
end
end Go.Proofs.YtogjajjdaoihdaaGreatDoor
