/-
  Texts of this claim, joined: ScrA, ScrB, ScrC, ScrD, ScrE, ScrF, ScrG, ScrP, ScrR, ScrH, ScrT, ScrI.
-/
import Derived.Test.YtogjajjdaoihdaaGreatDoorScriptReadsI

namespace Go.Proofs.YtogjajjdaoihdaaGreatDoor
set_option maxRecDepth 20000
open Go Ev
structure Base (E : Nat → Addr) (W0 : World) : Prop where
 errs : Errs W0 E W0.heap.size allErrs
 hand : Handle W0
 pow : Pow10 W0
 prot : Protos W0
 maxl : MaxL W0
 numv : NumV W0
 names : NamesV W0
 text : ∀ k, 1 ≤ k → k < 12 → W0.cell? ⟨(E k).block, (E k).off, (E k).spot⟩ = some (.string (bs (errT k)))
theorem codN : Codec 1 encI := ⟨fun _ => rfl, fun _ => rfl, by decide⟩
section
variable {w w' : World} {X : WorldA} {W : WorldS} {E : Nat → Addr} {m : Nat} {W0 : World}
theorem Stands.base {X' : WorldA} {W' : WorldS} (h : Stands E W0.heap.size m w X W) (hx : Ext No W0 w) (k : Turns w w' (worldH X W) (worldH X' W')) : Ext No W0 w' := hx.then k.ext fun b hb => .inr (h.high b hb)
theorem snumber_ok (l : List UInt8) (w : World) (hl : l.length ≤ 100000) (hV : NumV w) (ht : Pow10 w) :
   CallC Tryz.prog 172 #[.string (bs l)] w fun v w' => (∃ n k, v = .tuple #[.int .i64 n, .bool k] ∧ I64 n ∧ (k = true ↔ 0 ≤ numS l 5) ∧ (0 ≤ numS l 5 → n = numS l 5)) ∧ Ext No w w' := by
 refine fn_intro tabOk Tryz.func172 (by kernel_rfl) rfl Tryz.ntmps172 (lbO rfl) ?_
 have hS := St.start w No
 conv=>whnf
 refine (atoi_ok l w hl hV).mono ?_
 rintro v w1 ⟨⟨n, e, rfl, hn, hcase⟩, hx⟩
 replace hS := hS.no hx
 rcases hcase with ⟨ha, rfl⟩ | ⟨ha, t, u, rfl⟩
 · obtain ⟨k1, k2⟩ := numS_atoi 5 (by omega) ha
   conv=>whnf
   refine brD (fun h5 => ?_) (fun h5 => ?_)
   · have h5 : l.length ≤ 5 := by
       have := bs_size l
       omega
     conv=>whnf
     refine brD (fun h6 => ?_) (fun h6 => ?_)
     · have h6 : 0 ≤ n := by omega
       conv=>whnf
       refine (itoa_ok n hn.1 hn.2 _ (ht.no hS.ext)).mono ?_
       rintro v w2 ⟨rfl, hx⟩
       replace hS := hS.no hx
       conv=>whnf
       refine eqS2 ?_
       repeat' ((conv => whnf); first | refine RetC.mk ?_ | refine NzC.mk (by decide) ?_ | refine rgO ?_ | refine ixO ?_ | refine brD ?_ ?_ <;> (intro) | refine brND ?_ ?_ <;> (intro) | refine brN ?_ ?_ <;> (intro) | refine brI ?_ ?_ <;> (intro))
       refine ⟨⟨_, _, rfl, hn, ?_, k2⟩, hS.ext⟩
       rw [← k1, decide_eq_true_iff]
       exact ⟨fun h => ⟨⟨h5, h⟩, h6⟩, fun h => h.1.2⟩
     · have h6 : ¬ 0 ≤ n := by omega
       repeat' ((conv => whnf); first | refine RetC.mk ?_ | refine NzC.mk (by decide) ?_ | refine rgO ?_ | refine ixO ?_ | refine brD ?_ ?_ <;> (intro) | refine brND ?_ ?_ <;> (intro) | refine brN ?_ ?_ <;> (intro) | refine brI ?_ ?_ <;> (intro))
       refine ⟨⟨_, _, rfl, hn, ?_, k2⟩, hS.ext⟩
       rw [← k1]
       exact ⟨fun h => (by cases h), fun h => absurd h.2 h6⟩
   · have h5 : ¬ l.length ≤ 5 := by
       have := bs_size l
       omega
     repeat' ((conv => whnf); first | refine RetC.mk ?_ | refine NzC.mk (by decide) ?_ | refine rgO ?_ | refine ixO ?_ | refine brD ?_ ?_ <;> (intro) | refine brND ?_ ?_ <;> (intro) | refine brN ?_ ?_ <;> (intro) | refine brI ?_ ?_ <;> (intro))
     refine ⟨⟨_, _, rfl, hn, ?_, k2⟩, hS.ext⟩
     rw [← k1]
     exact ⟨fun h => (by cases h), fun h => absurd h.1.1 h5⟩
 · have hneg := numS_atoi_none (most := 5) (by omega) ha
   repeat' ((conv => whnf); first | refine RetC.mk ?_ | refine NzC.mk (by decide) ?_ | refine rgO ?_ | refine ixO ?_ | refine brD ?_ ?_ <;> (intro) | refine brND ?_ ?_ <;> (intro) | refine brN ?_ ?_ <;> (intro) | refine brI ?_ ?_ <;> (intro))
   exact ⟨⟨_, _, rfl, hn, ⟨fun h => (by cases h), fun h => absurd h (by omega)⟩, fun h => absurd h (by omega)⟩, hS.ext⟩
theorem numsS_len : ∀ {f : List UInt8} {ws : List (List UInt8)}, f.length ≠ ws.length → numsS f ws = none
 | [], [], h => absurd rfl h
 | [], _ :: _, _ => rfl
 | _ :: _, [], _ => rfl
 | c :: f, w :: ws, h => by
   unfold numsS
   rw [numsS_len (f := f) (ws := ws) (fun e => h (by rw [List.length_cons, List.length_cons, e]))]
   split <;> rfl
theorem numsS_at {f : List UInt8} {ws : List (List UInt8)} {k : Nat} {c : UInt8} {t : List UInt8} (hf : f[k]? = some c) (hw : ws[k]? = some t) : numsS (f.drop k) (ws.drop k) = if numS t 5 < 0 ∨ (c = 115 ∧ numS t 5 > 1) then none else (numsS (f.drop (k + 1)) (ws.drop (k + 1))).map fun l => numS t 5 :: l := by
 obtain ⟨l1, e1⟩ := List.getElem?_eq_some_iff.1 hf
 obtain ⟨l2, e2⟩ := List.getElem?_eq_some_iff.1 hw
 rw [List.drop_eq_getElem_cons l1, List.drop_eq_getElem_cons l2, e1, e2]
 rfl
theorem sread_ok {G : List UInt8 → Prop} {a : Option Addr} {n c : Nat} (f : List UInt8) (ws : List (List UInt8)) (hx : Slc w 1 encT G a n ws) (hf : f.length ≤ 10) (hws : ∀ t ∈ ws, t.length ≤ 100000) (hV : NumV w) (ht : Pow10 w) :
   CallC Tryz.prog 81 #[.string (bs f), .slice a n c] w fun v w' => (∃ a' d xs k, v = .tuple #[.slice a' xs.length d, .bool k] ∧ numsS f ws = (if k = true then some xs else none) ∧ (ownL 3 1 encI (.slice a' xs.length d) xs).holds w' ∧ Fresh w w' (.slice a' xs.length d)) ∧ Ext No w w' := by
 have hsz := bs_size f
 have hl := hx.len
 refine fn_intro tabOk Tryz.func81 (by kernel_rfl) rfl Tryz.ntmps81 (lbO rfl) ?_
 have hS := St.start w No
 have nilN : ∀ w : World, (ownL 3 1 encI (.slice none 0 0) ([] : List Int)).holds w := fun w => own_nil _ _ _
 conv=>whnf
 refine brND (fun h1 => ?_) (fun h1 => ?_)
 · repeat' ((conv => whnf); first | refine RetC.mk ?_ | refine NzC.mk (by decide) ?_ | refine rgO ?_ | refine ixO ?_ | refine brD ?_ ?_ <;> (intro) | refine brND ?_ ?_ <;> (intro) | refine brN ?_ ?_ <;> (intro) | refine brI ?_ ?_ <;> (intro))
   exact ⟨⟨none, 0, [], false, rfl, by rw [numsS_len (by omega)]; rfl, nilN _, fun g hg => by cases hg⟩, hS.ext⟩
 have hfn : f.length = n := by omega
 have hS := hS.add (ownL_local (e := 3) (enc := encI) (sz := 1) (v := .slice none 0 0) (xs := [])) (nilN _) (by simp [ownL, own, Value.ownBlock]) (by simp [ownL, own, Value.ownBlock])
 conv=>whnf
 refine loopR tabOk (fun σ w' q => ∃ (k : Nat) (a' : Option Addr) (d : Nat) (xs : List Int), σ = [(17, .int .i64 (k : Int)), (16, .int .i64 (n : Int)), (15, .slice a n c), (4, .slice a' k d), (0, .string (bs f))] ∧ q = n - k ∧ k ≤ n ∧ xs.length = k ∧ numsS f ws = (numsS (f.drop k) (ws.drop k)).map (fun l => xs ++ l) ∧ St w No w' [ownL 3 1 encI (.slice a' k d) xs])
   (σ' := [(17, .int .i64 ((0 : Nat) : Int)), (16, .int .i64 (n : Int)), (15, .slice a n c), (4, .slice none 0 0), (0, .string (bs f))]) (n := n) ⟨rfl, rfl, rfl, rfl, rfl, trivial⟩ ⟨0, none, 0, [], rfl, rfl, Nat.zero_le _, rfl, by simp, hS⟩ ?_
 clear hS
 rintro _ w1 q ⟨k, a', d, xs, rfl, rfl, hk, hxs, hi, hS⟩
 conv=>whnf
 refine brD (fun h3 => ?_) (fun h3 => ?_)
 · obtain ⟨b0, o0, t, hat, _, rfl, _, hc⟩ := hx.at (k := k) (by omega)
   obtain ⟨ch, hch⟩ : ∃ x, f[k]? = some x := ⟨_, List.getElem?_eq_getElem (by omega)⟩
   have hst := numsS_at hch hat
   conv=>whnf
   refine ixO ?_
   conv=>whnf
   refine hS.ldr (hc 0 _ rfl) id ?_
   conv=>whnf
   refine (snumber_ok t _ (hws t (List.mem_of_getElem? hat)) (hV.no hS.ext) (ht.no hS.ext)).mono ?_
   rintro v w2 ⟨⟨x, j, rfl, hj, i1, i2⟩, hx'⟩
   replace hS := hS.no hx'
   cases j with
   | false =>
     have hneg : numS t 5 < 0 := Int.not_le.1 fun h => (by cases i1.2 h)
     rw [if_pos (.inl hneg)] at hst
     repeat' ((conv => whnf); first | refine RetC.mk ?_ | refine NzC.mk (by decide) ?_ | refine rgO ?_ | refine ixO ?_ | refine brD ?_ ?_ <;> (intro) | refine brND ?_ ?_ <;> (intro) | refine brN ?_ ?_ <;> (intro) | refine brI ?_ ?_ <;> (intro))
     exact ⟨⟨none, 0, [], false, rfl, by rw [hi, hst]; rfl, nilN _, fun g hg => by cases hg⟩, hS.ext⟩
   | true =>
     have h0 := i1.1 rfl
     obtain rfl := i2 h0
     conv=>whnf
     refine idxS (j := k) Tryz.underlying9 rfl hch ?_
     conv=>whnf
     refine eqC ?_
     have hcc : ((ch.toNat : Int) == 115) = decide (ch = 115) := by
       rw [Bool.eq_iff_iff, beq_iff_eq, decide_eq_true_iff]
       exact ⟨fun h => UInt8.toNat_inj.1 (by show ch.toNat = 115; omega), fun h => by rw [h]; rfl⟩
     rw [hcc]
     have bad : ch = 115 → numS t 5 > 1 → numsS f ws = none := fun e1 e2 => by
       rw [if_pos (.inr ⟨e1, e2⟩)] at hst
       rw [hi, hst]
       rfl
     have good : ¬ (ch = 115 ∧ numS t 5 > 1) → numsS f ws = (numsS (f.drop (k + 1)) (ws.drop (k + 1))).map (fun l => (xs ++ [numS t 5]) ++ l) := fun e => by
       rw [if_neg (fun h => h.elim (fun h => by omega) e)] at hst
       rw [hi, hst, Option.map_map]
       congr 1
       funext l
       simp
     have step : ∀ {Q : Prop}, ((numsS f ws = (numsS (f.drop (k + 1)) (ws.drop (k + 1))).map (fun l => (xs ++ [numS t 5]) ++ l)) → Q) → ¬ (ch = 115 ∧ numS t 5 > 1) → Q := fun hq e => hq (good e)
     clear good hst hi
     conv=>whnf
     refine brD (fun h5 => ?_) (fun h5 => ?_)
     · (conv => whnf)
       refine brD (fun h6 => ?_) (fun h6 => ?_)
       · repeat' ((conv => whnf); first | refine RetC.mk ?_ | refine NzC.mk (by decide) ?_ | refine rgO ?_ | refine ixO ?_ | refine brD ?_ ?_ <;> (intro) | refine brND ?_ ?_ <;> (intro) | refine brN ?_ ?_ <;> (intro) | refine brI ?_ ?_ <;> (intro))
         exact ⟨⟨none, 0, [], false, rfl, by rw [bad h5 h6]; rfl, nilN _, fun g hg => by cases hg⟩, hS.ext⟩
       · refine step (fun hi => ?_) (fun h => h6 h.2)
         conv=>whnf
         refine hS.lit (cs := encI (numS t 5)) Tryz.underlying47 (sz := 1) (by kernel_rfl) (z := .int .i64 0) (by kernel_rfl) rfl rfl (by rfl) (fun bl w' hbl hS => ?_)
         have hy : Slc w' 1 encI (fun _ => True) (some ⟨bl, 0, none⟩) 1 [numS t 5] := Slc.of_blk codN (hS.blk 1 rfl) rfl (by decide) (fun _ _ => trivial) rfl
         conv=>whnf
         refine hS.appS codN 0 Tryz.underlying47 (bytes := 8) (by kernel_rfl) (z := .int .i64 0) (by kernel_rfl) rfl rfl hy (by unfold maxLen; omega) (by omega) (fun a2 c2 w' hS => ?_)
         rw [hxs] at hS ⊢
         replace hS : St w No w' [ownL 3 1 encI (.slice a2 (k + 1) c2) (xs ++ [numS t 5]), blk bl 3 (encI (numS t 5))] := hS
         replace hS := hS.keep 1
         conv=>whnf
         refine rgO ?_
         conv=>whnf
         refine LoopE.mk ⟨_, [(17, .int .i64 ((k + 1 : Nat) : Int)), (16, _), (15, _), (4, _), (0, _)], ?_, ⟨rfl, rfl, rfl, rfl, rfl, trivial⟩, ⟨k + 1, a2, c2, xs ++ [numS t 5], rfl, rfl, by omega, by rw [List.length_append, hxs]; rfl, hi, hS⟩⟩
         omega
     · refine step (fun hi => ?_) (fun h => h5 h.1)
       conv=>whnf
       refine hS.lit (cs := encI (numS t 5)) Tryz.underlying47 (sz := 1) (by kernel_rfl) (z := .int .i64 0) (by kernel_rfl) rfl rfl (by rfl) (fun bl w' hbl hS => ?_)
       have hy : Slc w' 1 encI (fun _ => True) (some ⟨bl, 0, none⟩) 1 [numS t 5] := Slc.of_blk codN (hS.blk 1 rfl) rfl (by decide) (fun _ _ => trivial) rfl
       conv=>whnf
       refine hS.appS codN 0 Tryz.underlying47 (bytes := 8) (by kernel_rfl) (z := .int .i64 0) (by kernel_rfl) rfl rfl hy (by unfold maxLen; omega) (by omega) (fun a2 c2 w' hS => ?_)
       rw [hxs] at hS ⊢
       replace hS : St w No w' [ownL 3 1 encI (.slice a2 (k + 1) c2) (xs ++ [numS t 5]), blk bl 3 (encI (numS t 5))] := hS
       replace hS := hS.keep 1
       conv=>whnf
       refine rgO ?_
       conv=>whnf
       refine LoopE.mk ⟨_, [(17, .int .i64 ((k + 1 : Nat) : Int)), (16, _), (15, _), (4, _), (0, _)], ?_, ⟨rfl, rfl, rfl, rfl, rfl, trivial⟩, ⟨k + 1, a2, c2, xs ++ [numS t 5], rfl, rfl, by omega, by rw [List.length_append, hxs]; rfl, hi, hS⟩⟩
       omega
 · obtain rfl : k = n := by omega
   rw [List.drop_of_length_le (by omega), List.drop_of_length_le (by omega)] at hi
   repeat' ((conv => whnf); first | refine RetC.mk ?_ | refine NzC.mk (by decide) ?_ | refine rgO ?_ | refine ixO ?_ | refine brD ?_ ?_ <;> (intro) | refine brND ?_ ?_ <;> (intro) | refine brN ?_ ?_ <;> (intro) | refine brI ?_ ?_ <;> (intro))
   rw [← hxs]
   exact ⟨⟨a', d, xs, true, rfl, by rw [hi]; simp [numsS], by rw [hxs]; exact hS.get 0 rfl, by rw [hxs]; exact hS.freshAt 0 rfl⟩, hS.ext⟩
end
end Go.Proofs.YtogjajjdaoihdaaGreatDoor

namespace Go.Proofs.YtogjajjdaoihdaaGreatDoor
set_option maxRecDepth 20000
open Go Ev
structure Sits (E : Nat → Addr) (q m : Nat) (w : World) (X : WorldA) (W : WorldS) (bp : Nat) (a : Option Addr) (n : Nat) (xs : List Int) : Prop where
 st : Stands E q m w X W
 ply : Blk w bp 90 [.pointer (some ⟨X.w, 0, none⟩)]
 plo : ¬ inF (worldH X W) bp
 slc : Slc w 1 encI (fun v => 0 ≤ v ∧ v ≤ 99999) a n xs
 out : 0 < n → ∀ b0 o0, a = some ⟨b0, o0, none⟩ → ¬ inF (worldH X W) b0
section
variable {w w' : World} {X : WorldA} {W : WorldS} {E : Nat → Addr} {q m bp n c : Nat} {a : Option Addr} {xs : List Int}
theorem Sits.cell (h : Sits E q m w X W bp a n xs) : w.cell? ⟨bp, 0, none⟩ = some (.pointer (some ⟨X.w, 0, none⟩)) := h.ply.cell 0
theorem Sits.at0 (h : Sits E q m w X W bp a n xs) {k : Nat} (hk : k < n) : ∃ b0 o0 x, a = some ⟨b0, o0, none⟩ ∧ xs[k]? = some x ∧ (0 ≤ x ∧ x ≤ 99999) ∧ ¬ inF (worldH X W) b0 ∧ w.cell? ⟨b0, o0 + k * 1, none⟩ = some (.int .i64 x) := by
 obtain ⟨b0, o0, x, hat, hg, ha, _, hc⟩ := h.slc.at hk
 exact ⟨b0, o0, x, ha, hat, hg, h.out (by omega) b0 o0 ha, hc.one 0 rfl⟩
theorem act_go (h : Sits E q m w X W bp a 1 xs) : CallC Tryz.prog 139 #[.pointer (some ⟨bp, 0, none⟩), .slice a 1 c] w (Does E w X W (W.deliver (at0 xs 0))) := by
 obtain ⟨b0, o0, x0, rfl, hat, hg, ho, hc⟩ := h.at0 (k := 0) (by omega)
 rw [at0_of hat]
 have hplo := h.plo
 refine fn_intro tabOk Tryz.func139 (by kernel_rfl) rfl Tryz.ntmps139 (lbO rfl) ?_
 have hS := St.start w No
 conv=>whnf
 (refine drawS tabOk mixed [] (inF (worldH X W)) [0, 1, 2, 3, 4, 5, 6, 7, 8] (by kernel_rfl) ?_; rintro w1 rfl; replace hS := hS.drew)
 conv=>whnf
 refine Ev.ldFc h.cell hplo ?_
 conv=>whnf
 refine ixO ?_
 conv=>whnf
 refine Ev.ldFc hc ho ?_
 conv=>whnf
 refine (wdeliver_ok x0 (h.st.no (Ext.drawn _ _ _))).mono ?_
 rintro v w2 ⟨rfl, X', hw, hk⟩
 refine KeepC.mk hk.ext ?_
 repeat' ((conv => whnf); first | refine RetC.mk ?_ | refine NzC.mk (by decide) ?_ | refine rgO ?_ | refine ixO ?_ | refine brD ?_ ?_ <;> (intro) | refine brND ?_ ?_ <;> (intro) | refine brN ?_ ?_ <;> (intro) | refine brI ?_ ?_ <;> (intro))
 exact ⟨rfl, X', hw, (Turns.of_no h.st.has (Ext.drawn _ _ _)).trans hk⟩
theorem act_lose (h : Sits E q m w X W bp a 1 xs) : CallC Tryz.prog 141 #[.pointer (some ⟨bp, 0, none⟩), .slice a 1 c] w (Does E w X W (W.drop (at0 xs 0))) := by
 obtain ⟨b0, o0, x0, rfl, hat, hg, ho, hc⟩ := h.at0 (k := 0) (by omega)
 rw [at0_of hat]
 have hplo := h.plo
 refine fn_intro tabOk Tryz.func141 (by kernel_rfl) rfl Tryz.ntmps141 (lbO rfl) ?_
 have hS := St.start w No
 conv=>whnf
 (refine drawS tabOk mixed [] (inF (worldH X W)) [0, 1, 2, 3, 4, 5, 6, 7, 8] (by kernel_rfl) ?_; rintro w1 rfl; replace hS := hS.drew)
 conv=>whnf
 refine Ev.ldFc h.cell hplo ?_
 conv=>whnf
 refine ixO ?_
 conv=>whnf
 refine Ev.ldFc hc ho ?_
 conv=>whnf
 refine (wdrop_ok x0 (h.st.no (Ext.drawn _ _ _))).mono ?_
 rintro v w2 ⟨rfl, X', hw, hk⟩
 refine KeepC.mk hk.ext ?_
 repeat' ((conv => whnf); first | refine RetC.mk ?_ | refine NzC.mk (by decide) ?_ | refine rgO ?_ | refine ixO ?_ | refine brD ?_ ?_ <;> (intro) | refine brND ?_ ?_ <;> (intro) | refine brN ?_ ?_ <;> (intro) | refine brI ?_ ?_ <;> (intro))
 exact ⟨rfl, X', hw, (Turns.of_no h.st.has (Ext.drawn _ _ _)).trans hk⟩
theorem act_twice (h : Sits E q m w X W bp a 1 xs) : CallC Tryz.prog 143 #[.pointer (some ⟨bp, 0, none⟩), .slice a 1 c] w (Does E w X W (W.twice (at0 xs 0))) := by
 obtain ⟨b0, o0, x0, rfl, hat, hg, ho, hc⟩ := h.at0 (k := 0) (by omega)
 rw [at0_of hat]
 have hplo := h.plo
 refine fn_intro tabOk Tryz.func143 (by kernel_rfl) rfl Tryz.ntmps143 (lbO rfl) ?_
 have hS := St.start w No
 conv=>whnf
 (refine drawS tabOk mixed [] (inF (worldH X W)) [0, 1, 2, 3, 4, 5, 6, 7, 8] (by kernel_rfl) ?_; rintro w1 rfl; replace hS := hS.drew)
 conv=>whnf
 refine Ev.ldFc h.cell hplo ?_
 conv=>whnf
 refine ixO ?_
 conv=>whnf
 refine Ev.ldFc hc ho ?_
 conv=>whnf
 refine (wtwice_ok x0 (h.st.no (Ext.drawn _ _ _))).mono ?_
 rintro v w2 ⟨rfl, X', hw, hk⟩
 refine KeepC.mk hk.ext ?_
 repeat' ((conv => whnf); first | refine RetC.mk ?_ | refine NzC.mk (by decide) ?_ | refine rgO ?_ | refine ixO ?_ | refine brD ?_ ?_ <;> (intro) | refine brND ?_ ?_ <;> (intro) | refine brN ?_ ?_ <;> (intro) | refine brI ?_ ?_ <;> (intro))
 exact ⟨rfl, X', hw, (Turns.of_no h.st.has (Ext.drawn _ _ _)).trans hk⟩
theorem act_down (h : Sits E q m w X W bp a 1 xs) : CallC Tryz.prog 145 #[.pointer (some ⟨bp, 0, none⟩), .slice a 1 c] w (Does E w X W (W.down (at0 xs 0))) := by
 obtain ⟨b0, o0, x0, rfl, hat, hg, ho, hc⟩ := h.at0 (k := 0) (by omega)
 rw [at0_of hat]
 have hplo := h.plo
 refine fn_intro tabOk Tryz.func145 (by kernel_rfl) rfl Tryz.ntmps145 (lbO rfl) ?_
 have hS := St.start w No
 conv=>whnf
 (refine drawS tabOk mixed [] (inF (worldH X W)) [0, 1, 2, 3, 4, 5, 6, 7, 8] (by kernel_rfl) ?_; rintro w1 rfl; replace hS := hS.drew)
 conv=>whnf
 refine Ev.ldFc h.cell hplo ?_
 conv=>whnf
 refine ixO ?_
 conv=>whnf
 refine Ev.ldFc hc ho ?_
 conv=>whnf
 refine (wdown_ok x0 (h.st.no (Ext.drawn _ _ _))).mono ?_
 rintro v w2 ⟨rfl, hk⟩
 refine KeepC.mk hk.ext ?_
 repeat' ((conv => whnf); first | refine RetC.mk ?_ | refine NzC.mk (by decide) ?_ | refine rgO ?_ | refine ixO ?_ | refine brD ?_ ?_ <;> (intro) | refine brND ?_ ?_ <;> (intro) | refine brN ?_ ?_ <;> (intro) | refine brI ?_ ?_ <;> (intro))
 exact ⟨rfl, X, rfl, (Turns.of_no h.st.has (Ext.drawn _ _ _)).trans hk⟩
theorem act_up (h : Sits E q m w X W bp a 1 xs) : CallC Tryz.prog 147 #[.pointer (some ⟨bp, 0, none⟩), .slice a 1 c] w (Does E w X W (W.up (at0 xs 0))) := by
 obtain ⟨b0, o0, x0, rfl, hat, hg, ho, hc⟩ := h.at0 (k := 0) (by omega)
 rw [at0_of hat]
 have hplo := h.plo
 refine fn_intro tabOk Tryz.func147 (by kernel_rfl) rfl Tryz.ntmps147 (lbO rfl) ?_
 have hS := St.start w No
 conv=>whnf
 (refine drawS tabOk mixed [] (inF (worldH X W)) [0, 1, 2, 3, 4, 5, 6, 7, 8] (by kernel_rfl) ?_; rintro w1 rfl; replace hS := hS.drew)
 conv=>whnf
 refine Ev.ldFc h.cell hplo ?_
 conv=>whnf
 refine ixO ?_
 conv=>whnf
 refine Ev.ldFc hc ho ?_
 conv=>whnf
 refine (wcome_ok x0 (h.st.no (Ext.drawn _ _ _))).mono ?_
 rintro v w2 ⟨rfl, X', hw, hk⟩
 refine KeepC.mk hk.ext ?_
 repeat' ((conv => whnf); first | refine RetC.mk ?_ | refine NzC.mk (by decide) ?_ | refine rgO ?_ | refine ixO ?_ | refine brD ?_ ?_ <;> (intro) | refine brND ?_ ?_ <;> (intro) | refine brN ?_ ?_ <;> (intro) | refine brI ?_ ?_ <;> (intro))
 exact ⟨rfl, X', hw, (Turns.of_no h.st.has (Ext.drawn _ _ _)).trans hk⟩
theorem act_tick (h : Sits E q m w X W bp a 2 xs) (hm : m + 34 * (at0 xs 1).toNat ≤ 40000000) : CallC Tryz.prog 137 #[.pointer (some ⟨bp, 0, none⟩), .slice a 2 c] w (Does E w X W (W.ticks (at0 xs 0) (at0 xs 1).toNat)) := by
 obtain ⟨b0, o0, x0, rfl, hat, hg, ho, hc⟩ := h.at0 (k := 0) (by omega)
 obtain ⟨b1, o1, x1, hae, hat1, hg1, _, hc1⟩ := h.at0 (k := 1) (by omega)
 cases hae
 rw [at0_of hat, at0_of hat1]
 have hplo := h.plo
 obtain ⟨k1, rfl⟩ : ∃ k : Nat, x1 = k := ⟨x1.toNat, by omega⟩
 refine fn_intro tabOk Tryz.func137 (by kernel_rfl) rfl Tryz.ntmps137 (lbO rfl) ?_
 have hS := St.start w No
 conv=>whnf
 (refine drawS tabOk mixed [] (inF (worldH X W)) [0, 1, 2, 3, 4, 5, 6, 7, 8, 9, 10, 11] (by kernel_rfl) ?_; rintro w1 rfl; replace hS := hS.drew)
 conv=>whnf
 refine Ev.ldFc h.cell hplo ?_
 conv=>whnf
 refine ixO ?_
 conv=>whnf
 refine Ev.ldFc hc ho ?_
 conv=>whnf
 refine ixO ?_
 conv=>whnf
 refine Ev.ldFc hc1 ho ?_
 conv=>whnf
 refine (pticks_ok x0 k1 (h.st.no (Ext.drawn _ _ _)) (by rw [at0_of hat1] at hm; simpa using hm)).mono ?_
 rintro v w2 ⟨rfl, X', hw, hk⟩
 refine KeepC.mk hk.ext ?_
 repeat' ((conv => whnf); first | refine RetC.mk ?_ | refine NzC.mk (by decide) ?_ | refine rgO ?_ | refine ixO ?_ | refine brD ?_ ?_ <;> (intro) | refine brND ?_ ?_ <;> (intro) | refine brN ?_ ?_ <;> (intro) | refine brI ?_ ?_ <;> (intro))
 exact ⟨rfl, X', hw, (Turns.of_no h.st.has (Ext.drawn _ _ _)).trans hk⟩
theorem act_cut (h : Sits E q m w X W bp a 2 xs) : CallC Tryz.prog 149 #[.pointer (some ⟨bp, 0, none⟩), .slice a 2 c] w (Does E w X W (W.cut (at0 xs 0) (at0 xs 1))) := by
 obtain ⟨b0, o0, x0, rfl, hat, hg, ho, hc⟩ := h.at0 (k := 0) (by omega)
 obtain ⟨b1, o1, x1, hae, hat1, hg1, _, hc1⟩ := h.at0 (k := 1) (by omega)
 cases hae
 rw [at0_of hat, at0_of hat1]
 have hplo := h.plo
 obtain ⟨k1, rfl⟩ : ∃ k : Nat, x1 = k := ⟨x1.toNat, by omega⟩
 refine fn_intro tabOk Tryz.func149 (by kernel_rfl) rfl Tryz.ntmps149 (lbO rfl) ?_
 have hS := St.start w No
 conv=>whnf
 (refine drawS tabOk mixed [] (inF (worldH X W)) [0, 1, 2, 3, 4, 5, 6, 7, 8, 9, 10, 11] (by kernel_rfl) ?_; rintro w1 rfl; replace hS := hS.drew)
 conv=>whnf
 refine Ev.ldFc h.cell hplo ?_
 conv=>whnf
 refine ixO ?_
 conv=>whnf
 refine Ev.ldFc hc ho ?_
 conv=>whnf
 refine ixO ?_
 conv=>whnf
 refine Ev.ldFc hc1 ho ?_
 conv=>whnf
 refine (wcut_ok x0 k1 (h.st.no (Ext.drawn _ _ _))).mono ?_
 rintro v w2 ⟨rfl, hk⟩
 refine KeepC.mk hk.ext ?_
 repeat' ((conv => whnf); first | refine RetC.mk ?_ | refine NzC.mk (by decide) ?_ | refine rgO ?_ | refine ixO ?_ | refine brD ?_ ?_ <;> (intro) | refine brND ?_ ?_ <;> (intro) | refine brN ?_ ?_ <;> (intro) | refine brI ?_ ?_ <;> (intro))
 exact ⟨rfl, X, rfl, (Turns.of_no h.st.has (Ext.drawn _ _ _)).trans hk⟩
def Cmd.act (c : Cmd) (xs : List Int) (W : WorldS) : Nat × WorldS := match c with
 | .tick => W.ticks (at0 xs 0) (at0 xs 1).toNat
 | .go => W.deliver (at0 xs 0)
 | .lose => W.drop (at0 xs 0)
 | .twice => W.twice (at0 xs 0)
 | .down => W.down (at0 xs 0)
 | .up => W.up (at0 xs 0)
 | _ => W.cut (at0 xs 0) (at0 xs 1)
theorem sact_ok {d : Cmd} (hd : d ∈ actsL) (h : Sits E q m w X W bp a n xs) (hn : n = d.form.length) (hm : d = .tick → m + 34 * (at0 xs 1).toNat ≤ 40000000) : CallC Tryz.prog (actF d) #[.pointer (some ⟨bp, 0, none⟩), .slice a n c] w (Does E w X W (d.act xs W)) := by
 subst hn
 simp only [actsL, List.mem_cons, List.not_mem_nil, or_false] at hd
 rcases hd with rfl | rfl | rfl | rfl | rfl | rfl | rfl
 · exact act_tick h (hm rfl)
 · exact act_go h
 · exact act_lose h
 · exact act_twice h
 · exact act_down h
 · exact act_up h
 · exact act_cut h
theorem scr_ok (e : Value) (w : World) : CallC Tryz.prog 232 #[e] w fun v w' => v = .tuple #[.string (bs tOk), e] ∧ w = w' := by
 refine fn_intro tabOk Tryz.func232 (by kernel_rfl) rfl Tryz.ntmps232 (lbO rfl) ?_
 repeat' ((conv => whnf); first | refine RetC.mk ?_ | refine NzC.mk (by decide) ?_ | refine rgO ?_ | refine ixO ?_ | refine brD ?_ ?_ <;> (intro) | refine brND ?_ ?_ <;> (intro) | refine brN ?_ ?_ <;> (intro) | refine brI ?_ ?_ <;> (intro))
 exact ⟨rfl, rfl⟩
abbrev Plays (E : Nat → Addr) (w : World) (X : WorldA) (W : WorldS) (r : (List UInt8 × Nat) × WorldS) (v : Value) (w' : World) : Prop := v = .tuple #[.string (bs r.1.1), errV E r.1.2] ∧ ∃ X', X'.w = X.w ∧ Turns w w' (worldH X W) (worldH X' r.2)
theorem Cmd.does_act {d : Cmd} (hd : d ∈ actsL) (xs : List Int) (W : WorldS) : d.does xs W = ((tOk, (d.act xs W).1), (d.act xs W).2) := by
 simp only [actsL, List.mem_cons, List.not_mem_nil, or_false] at hd
 rcases hd with rfl | rfl | rfl | rfl | rfl | rfl | rfl <;> rfl
theorem one_call {d : Cmd} {bf : Nat} (hd : d ∈ actsL) (hf : Blk w bf 273 [fnV (actF d) []]) (h : Sits E q m w X W bp a n xs) (hn : n = d.form.length) (hm : d = .tick → m + 34 * (at0 xs 1).toNat ≤ 40000000) :
   CallC Tryz.prog 231 #[.pointer (some ⟨bp, 0, none⟩), .slice a n c, .pointer (some ⟨bf, 0, none⟩)] w (Plays E w X W (d.does xs W)) := by
 rw [Cmd.does_act hd]
 refine fn_intro tabOk Tryz.func231 (by kernel_rfl) rfl Tryz.ntmps231 (lbO rfl) ?_
 conv=>whnf
 refine ldc (hf.cell 0) ?_
 conv=>whnf
 refine (sact_ok hd h hn hm).mono ?_
 rintro v w2 ⟨rfl, X', hw, hk⟩
 conv=>whnf
 refine (scr_ok _ _).mono ?_
 rintro v w3 ⟨rfl, rfl⟩
 repeat' ((conv => whnf); first | refine RetC.mk ?_ | refine NzC.mk (by decide) ?_ | refine rgO ?_ | refine ixO ?_ | refine brD ?_ ?_ <;> (intro) | refine brND ?_ ?_ <;> (intro) | refine brN ?_ ?_ <;> (intro) | refine brI ?_ ?_ <;> (intro))
 exact ⟨rfl, X', hw, hk⟩
end
end Go.Proofs.YtogjajjdaoihdaaGreatDoor

namespace Go.Proofs.YtogjajjdaoihdaaGreatDoor
set_option maxRecDepth 20000
open Go Ev
theorem joinTail_len {n : Nat} (sep : List UInt8) : ∀ {xs : List (List UInt8)}, (∀ x ∈ xs, x.length ≤ n) → (Lib.joinTail sep xs).length ≤ xs.length * (n + sep.length)
 | [], _ => Nat.le_of_eq (Nat.zero_mul _).symm
 | x :: xs, h => by
   have h1 := h x List.mem_cons_self
   have h2 := joinTail_len sep (xs := xs) fun y hy => h y (List.mem_cons_of_mem _ hy)
   have e : Lib.joinTail sep (x :: xs) = sep ++ x ++ Lib.joinTail sep xs := rfl
   rw [e, List.length_append, List.length_append, List.length_cons, Nat.succ_mul]
   omega
theorem join_lenN {n : Nat} {sep : List UInt8} {xs : List (List UInt8)} (h : ∀ x ∈ xs, x.length ≤ n) : (Lib.join xs sep).length ≤ xs.length * (n + sep.length) := by
 cases xs with
 | nil => exact Nat.le_of_eq (Nat.zero_mul _).symm
 | cons x xs =>
   have h1 := h x List.mem_cons_self
   have h2 := joinTail_len sep (xs := xs) fun y hy => h y (List.mem_cons_of_mem _ hy)
   rw [Lib.join_cons, List.length_append, List.length_cons, Nat.succ_mul]
   omega
theorem flowsN_step {xs : List CellS} {k : Nat} {x : CellS} (h : xs[k]? = some x) : flowsN (xs.take (k + 1)) = flowsN (xs.take k) + if x.f.proto ≠ 0 then 1 else 0 := by
 unfold flowsN
 rw [List.take_add_one, h, List.filter_append, List.length_append]
 by_cases hx : x.f.proto = 0 <;> simp [hx]
theorem flowsN_le (xs : List CellS) : flowsN xs ≤ xs.length := List.length_filter_le _ _
def EvOk (e : Int × Int) : Prop := I64 e.1 ∧ I64 e.2
theorem evT1_len {e : Int × Int} (h : EvOk e) : (evT1 e).length ≤ 43 := by
 have e1 := Lib.itoa_length_le e.1 h.1.1 h.1.2
 have e2 := Lib.itoa_length_le e.2 h.2.1 h.2.2
 unfold evT1
 rw [List.length_append, List.length_append, List.length_singleton]
 omega
section
variable {w w' : World} {X : WorldA} {W : WorldS} {E : Nat → Addr} {q m bp n c : Nat} {a : Option Addr} {xs : List Int}
theorem sflows_ok {G : CellS → Prop} {cs : List CellS} (hx : Slc w 10 encCell G a n cs) (hn : n ≤ 1000) : CallC Tryz.prog 162 #[.slice a n c] w fun v w' => v = .int .i64 (flowsN cs : Nat) ∧ Ext No w w' := by
 have hl := hx.len
 refine fn_intro tabOk Tryz.func162 (by kernel_rfl) rfl Tryz.ntmps162 (lbO rfl) ?_
 have hS := St.start w No
 conv=>whnf
 refine loopR tabOk (fun σ w' q => ∃ k : Nat, σ = [(8, .int .i64 (k : Int)), (7, .int .i64 n), (6, .slice a n c), (3, .int .i64 ((flowsN (cs.take k) : Nat) : Int))] ∧ q = n - k ∧ k ≤ n ∧ St w No w' [])
   (σ' := [(8, .int .i64 ((0 : Nat) : Int)), (7, .int .i64 n), (6, .slice a n c), (3, .int .i64 ((flowsN (cs.take 0) : Nat) : Int))]) (n := n) ⟨rfl, rfl, rfl, rfl, trivial⟩ ⟨0, rfl, rfl, Nat.zero_le _, hS⟩ ?_
 clear hS
 rintro _ w1 q ⟨k, rfl, rfl, hk, hS⟩
 conv=>whnf
 refine brD (fun h3 => ?_) (fun h3 => ?_)
 · obtain ⟨b0, o0, x, hxk, hgx, rfl, _, hc⟩ := hx.at (k := k) (by omega)
   have hst := flowsN_step hxk
   have hle := flowsN_le (cs.take k)
   rw [List.length_take] at hle
   conv=>whnf
   refine ixO ?_
   conv=>whnf
   refine hS.lar (l := encCell x) rfl hc id ?_
   conv=>whnf
   refine hS.new (fun bx w' hb hS => ?_)
   conv=>whnf
   refine hS.st 0 rfl (lbO rfl) rfl (fun w' hS => ?_)
   replace hS : St w No w' [blk bx 209 (encCell x)] := hS
   conv=>whnf
   refine hS.ld 0 rfl rfl ?_
   conv=>whnf
   refine brN (fun h4 => ?_) (fun h4 => ?_)
   · rw [if_pos (by simpa using h4)] at hst
     conv=>whnf
     refine rgO ?_
     conv=>whnf
     refine rgO ?_
     conv=>whnf
     refine LoopE.mk ⟨_, [(8, .int .i64 ((k + 1 : Nat) : Int)), (7, _), (6, _), (3, .int .i64 ((flowsN (cs.take k) + 1 : Nat) : Int))], ?_, ⟨rfl, rfl, rfl, rfl, trivial⟩, ⟨k + 1, by rw [hst], rfl, by omega, hS.keep 0⟩⟩
     omega
   · rw [if_neg (by simpa using h4)] at hst
     conv=>whnf
     refine rgO ?_
     conv=>whnf
     refine LoopE.mk ⟨_, [(8, .int .i64 ((k + 1 : Nat) : Int)), (7, _), (6, _), (3, _)], ?_, ⟨rfl, rfl, rfl, rfl, trivial⟩, ⟨k + 1, by rw [hst]; rfl, rfl, by omega, hS.keep 0⟩⟩
     omega
 · obtain rfl : k = n := by omega
   rw [List.take_of_length_le (by omega)]
   repeat' ((conv => whnf); first | refine RetC.mk ?_ | refine NzC.mk (by decide) ?_ | refine rgO ?_ | refine ixO ?_ | refine brD ?_ ?_ <;> (intro) | refine brND ?_ ?_ <;> (intro) | refine brN ?_ ?_ <;> (intro) | refine brI ?_ ?_ <;> (intro))
   exact ⟨rfl, hS.ext⟩
theorem sevents_ok {es : List (Int × Int)} (hx : Slc w 2 encEv EvOk a n es) (hn : n ≤ 1000) (ht : Pow10 w) : CallC Tryz.prog 171 #[.slice a n c] w fun v w' => v = .string (bs (eventsT es)) ∧ Ext No w w' := by
 have hl := hx.len
 have hgood := hx.good
 refine fn_intro tabOk Tryz.func171 (by kernel_rfl) rfl Tryz.ntmps171 (lbO rfl) ?_
 have hS := (St.start w No).addNil 9 1 encT
 conv=>whnf
 refine loopR tabOk (fun σ w' q => ∃ (k : Nat) (a' : Option Addr) (c' : Nat), σ = [(8, .int .i64 (k : Int)), (7, .int .i64 n), (6, .slice a n c), (3, .slice a' k c')] ∧ q = n - k ∧ k ≤ n ∧ (k = 0 → a' = none) ∧ St w No w' [ownL 9 1 encT (.slice a' k c') ((es.map evT1).take k)])
   (σ' := [(8, .int .i64 ((0 : Nat) : Int)), (7, .int .i64 n), (6, .slice a n c), (3, .slice none 0 0)]) (n := n) ⟨rfl, rfl, rfl, rfl, trivial⟩ ⟨0, none, 0, rfl, rfl, Nat.zero_le _, fun _ => rfl, hS⟩ ?_
 clear hS
 rintro _ w1 q ⟨k, a', c', rfl, rfl, hk, ha, hS⟩
 conv=>whnf
 refine brD (fun h3 => ?_) (fun h3 => ?_)
 · obtain ⟨b0, o0, x, hxk, hgx, rfl, hb0, hc⟩ := hx.at (k := k) (by omega)
   have hT : ¬ w.heap.size ≤ b0 := Nat.not_le.2 hb0
   have hlk : ((es.map evT1).take k).length = k := by rw [List.length_take, List.length_map]; omega
   have hst : (es.map evT1).take (k + 1) = (es.map evT1).take k ++ [evT1 x] := by rw [List.take_add_one, List.getElem?_map, hxk]; rfl
   have e1 := Lib.itoa_length_le x.1 hgx.1.1 hgx.1.2
   have e2 := Lib.itoa_length_le x.2 hgx.2.1 hgx.2.2
   conv=>whnf
   refine ixO ?_
   conv=>whnf
   refine hS.lar (l := encEv x) rfl hc id ?_
   conv=>whnf
   refine hS.new (fun bx w' hb hS => ?_)
   conv=>whnf
   refine hS.st 1 rfl (lbO rfl) rfl (fun w' hS => ?_)
   replace hS : St w No w' [ownL 9 1 encT (.slice a' k c') ((es.map evT1).take k), blk bx 157 (encEv x)] := hS
   have hbx : ¬ (Value.slice a' k c').ownBlock = some bx := fun he => hS.apartAt 1 0 rfl rfl (by decide) bx (List.mem_singleton.2 rfl) (by simp [ownL, own, he])
   conv=>whnf
   (refine drawS tabOk mixed [] (fun b => (Value.slice a' k c').ownBlock = some b) [0, 1, 2, 5, 6, 3, 4, 7, 8, 9, 10, 11] (by kernel_rfl) ?_; rintro w1 rfl; replace hS := hS.drew)
   have hK := hS.ref (fun b => (Value.slice a' k c').ownBlock = some b)
   conv=>whnf
   refine hS.ldF 1 rfl rfl hbx ?_
   conv=>whnf
   refine hS.ldF 1 rfl rfl hbx ?_
   conv=>whnf
   refine (itoa_ok x.1 hgx.1.1 hgx.1.2 _ (ht.no hS.ext)).mono ?_
   rintro v w2 ⟨rfl, hx'⟩
   replace hS := hS.no hx'
   replace hK := hK.trans hx'.of_no
   refine KeepC.mk hK ?_
   clear hx'
   conv=>whnf
   refine addS (b := [32]) (by simp; omega) ?_
   conv=>whnf
   refine (itoa_ok x.2 hgx.2.1 hgx.2.2 _ (ht.no hS.ext)).mono ?_
   rintro v w2 ⟨rfl, hx'⟩
   replace hS := hS.no hx'
   replace hK := hK.trans hx'.of_no
   refine KeepC.mk hK ?_
   clear hx'
   conv=>whnf
   refine addS (by simp; omega) ?_
   conv=>whnf
   refine hS.litX Tryz.underlying22 (sz := 1) (by kernel_rfl) (z := .string (bs [])) (by kernel_rfl) rfl rfl (cs := encT (evT1 x)) (by rfl) (fun b9 w3 hb9 hx3 hS => ?_)
   replace hK := hK.trans hx3.of_no
   refine KeepC.mk hK ?_
   clear hx3
   conv=>whnf
   refine hS.appX codT 0 (ys := [evT1 x]) (G := fun _ => True) Tryz.underlying22 (bytes := 16) (by kernel_rfl) (z := .string (bs [])) (by kernel_rfl) rfl rfl (Slc.of_blk codT (hS.blk 2 rfl) rfl (by simp) (fun _ _ => trivial) rfl) (by rw [hlk]; unfold maxLen; omega) (by rw [hlk]; omega) (fun a2 c2 w4 hx4 hS => ?_)
   replace hK := hK.trans hx4
   refine KeepC.mk hK ?_
   clear hx4 hK
   rw [hlk] at hS ⊢
   replace hS := hS.keep 1
   replace hS : St w No w4 [ownL 9 1 encT (.slice a2 (k + 1) c2) ((es.map evT1).take (k + 1))] := by rw [hst]; exact hS
   conv=>whnf
   refine rgO ?_
   conv=>whnf
   refine LoopE.mk ⟨_, [(8, .int .i64 ((k + 1 : Nat) : Int)), (7, _), (6, _), (3, _)], ?_, ⟨rfl, rfl, rfl, rfl, trivial⟩, ⟨k + 1, a2, c2, rfl, rfl, by omega, fun h => absurd h (by omega), hS⟩⟩
   omega
 · obtain rfl : k = n := by omega
   rw [List.take_of_length_le (by rw [List.length_map]; omega)] at hS
   cases es with
   | nil =>
     obtain rfl : k = 0 := hl.symm
     obtain rfl := ha rfl
     repeat' ((conv => whnf); first | refine RetC.mk ?_ | refine NzC.mk (by decide) ?_ | refine rgO ?_ | refine ixO ?_ | refine brD ?_ ?_ <;> (intro) | refine brND ?_ ?_ <;> (intro) | refine brN ?_ ?_ <;> (intro) | refine brI ?_ ?_ <;> (intro))
     exact ⟨rfl, hS.ext⟩
   | cons x es =>
     obtain ⟨b, rfl⟩ := ownT_some (hS.get 0 rfl) (by simp)
     have hcap := ownT_cap (hS.get 0 rfl)
     have hcells : CellsAt w1 b 0 (((x :: es).map evT1).map fun l => .string (bs l)) := by
       have := own_cells codT (hS.get 0 rfl)
       rwa [flat_encT] at this
     have hjl := join_lenN (n := 43) (sep := [44, 32]) (xs := (x :: es).map evT1) fun y hy => by
       obtain ⟨e, he, rfl⟩ := List.mem_map.1 hy
       exact evT1_len (hgood e he)
     have hml : ((x :: es).map evT1).length = k := by rw [List.length_map]; exact hl
     have hk0 : 0 < k := by rw [← hl]; exact Nat.succ_pos _
     rw [hml] at hjl
     have h43 : k * (43 + [44, 32].length) ≤ 1000 * 45 := Nat.mul_le_mul hn (Nat.le_refl _)
     conv=>whnf
     refine (join_ok ((x :: es).map evT1) [44, 32] _ hml hcells hk0 hcap (by omega) (by omega)).mono ?_
     rintro v w2 ⟨rfl, hx'⟩
     replace hS := hS.no hx'
     repeat' ((conv => whnf); first | refine RetC.mk ?_ | refine NzC.mk (by decide) ?_ | refine rgO ?_ | refine ixO ?_ | refine brD ?_ ?_ <;> (intro) | refine brND ?_ ?_ <;> (intro) | refine brN ?_ ?_ <;> (intro) | refine brI ?_ ?_ <;> (intro))
     exact ⟨rfl, hS.ext⟩
end
end Go.Proofs.YtogjajjdaoihdaaGreatDoor

namespace Go.Proofs.YtogjajjdaoihdaaGreatDoor
set_option maxRecDepth 20000
open Go Ev
section
variable {w w' : World} {X : WorldA} {W : WorldS} {E : Nat → Addr} {q m bp n c : Nat} {a : Option Addr} {xs : List Int}
theorem Stands.node (h : Stands E q m w X W) {x : Int} {N : NodeS} (hx : x = 0 ∨ x = 1) (hN : (W.side x).node = some N) : Has w (nodeH (X.side x).A N) ∧ NOk m N := by
 refine ⟨?_, ((h.ok.side hx).node N hN).1⟩
 have h1 := (h.half hx).1
 rw [half_up hN] at h1
 have h2 : Has w (nodeH (X.side x).A N ++ [blk (X.side x).A.b 253 (encBy (W.side x).byt)]) := h1.right
 exact h2.left
def Asks (w : World) (X : WorldA) (W : WorldS) (m : Nat) (f : FuncId) (fN : NodeS → Int) : Prop := ∀ (x : Int) (N : NodeS) (w' : World), Ext No w w' → (W.side x).node = some N → Has w' (nodeH (X.side x).A N) → NOk m N → CallC Tryz.prog f #[.pointer (some ⟨(X.side x).A.n, 0, none⟩)] w' fun v w'' => v = .int .i64 (fN N) ∧ Ext No w' w''
theorem asks_flows : Asks w X W m 161 (fun N => (flowsN N.tab.cells : Nat)) := by
 intro x N w' _ _ hH hO
 refine fn_intro tabOk Tryz.func161 (by kernel_rfl) rfl Tryz.ntmps161 (lbO rfl) ?_
 have hS := St.start w' No
 conv=>whnf
 refine (ntable_ok hH hO.tab.len).mono ?_
 rintro v w2 ⟨a', c', rfl, hx, ho, hf⟩
 replace hS := hS.no hx
 conv=>whnf
 refine (sflows_ok (ownL_slc (G := fun _ => True) codCell ho (fun _ _ => trivial)) (by omega)).mono ?_
 rintro v w3 ⟨rfl, hx⟩
 replace hS := hS.no hx
 repeat' ((conv => whnf); first | refine RetC.mk ?_ | refine NzC.mk (by decide) ?_ | refine rgO ?_ | refine ixO ?_ | refine brD ?_ ?_ <;> (intro) | refine brND ?_ ?_ <;> (intro) | refine brN ?_ ?_ <;> (intro) | refine brI ?_ ?_ <;> (intro))
 exact ⟨rfl, hS.ext⟩
theorem asks_mirror : Asks w X W m 164 (fun N => (flowsN N.mir.cells : Nat)) := by
 intro x N w' _ _ hH hO
 refine fn_intro tabOk Tryz.func164 (by kernel_rfl) rfl Tryz.ntmps164 (lbO rfl) ?_
 have hS := St.start w' No
 conv=>whnf
 refine (nmirror_ok hH hO.mir).mono ?_
 rintro v w2 ⟨a', c', rfl, hx, ho, hf⟩
 replace hS := hS.no hx
 conv=>whnf
 refine (sflows_ok (ownL_slc (G := fun _ => True) codCell ho (fun _ _ => trivial)) (by omega)).mono ?_
 rintro v w3 ⟨rfl, hx⟩
 replace hS := hS.no hx
 repeat' ((conv => whnf); first | refine RetC.mk ?_ | refine NzC.mk (by decide) ?_ | refine rgO ?_ | refine ixO ?_ | refine brD ?_ ?_ <;> (intro) | refine brND ?_ ?_ <;> (intro) | refine brN ?_ ?_ <;> (intro) | refine brI ?_ ?_ <;> (intro))
 exact ⟨rfl, hS.ext⟩
theorem asks_epoch : Asks w X W m 166 (fun N => N.role.epoch) := by
 intro x N w' _ _ hH hO
 refine fn_intro tabOk Tryz.func166 (by kernel_rfl) rfl Tryz.ntmps166 (lbO rfl) ?_
 have hS := hH.start
 conv=>whnf
 refine hS.ld 0 rfl rfl ?_
 conv=>whnf
 refine (role_epoch (hS.blk 1 rfl)).mono ?_
 rintro v w2 ⟨rfl, rfl⟩
 repeat' ((conv => whnf); first | refine RetC.mk ?_ | refine NzC.mk (by decide) ?_ | refine rgO ?_ | refine ixO ?_ | refine brD ?_ ?_ <;> (intro) | refine brND ?_ ?_ <;> (intro) | refine brN ?_ ?_ <;> (intro) | refine brI ?_ ?_ <;> (intro))
 exact ⟨rfl, Ext.refl _ _⟩
theorem asks_life : Asks w X W m 168 (fun N => (N.cell.li : Nat)) := by
 intro x N w' _ _ hH hO
 refine fn_intro tabOk Tryz.func168 (by kernel_rfl) rfl Tryz.ntmps168 (lbO rfl) ?_
 have hS := St.start w' No
 conv=>whnf
 refine (nlife_ok hH).mono ?_
 rintro v w2 ⟨rfl, hx⟩
 repeat' ((conv => whnf); first | refine RetC.mk ?_ | refine NzC.mk (by decide) ?_ | refine rgO ?_ | refine ixO ?_ | refine brD ?_ ?_ <;> (intro) | refine brND ?_ ?_ <;> (intro) | refine brN ?_ ?_ <;> (intro) | refine brI ?_ ?_ <;> (intro))
 exact ⟨rfl, hx⟩
theorem ask_call {f : FuncId} {bf : Nat} {fN : NodeS → Int} (hf : Blk w bf 279 [fnV f []]) (h : Sits E q m w X W bp a 1 xs) (hP : Pow10 w) (hI : ∀ N, NOk m N → I64 (fN N)) (hk : Asks w X W m f fN) :
   CallC Tryz.prog 242 #[.pointer (some ⟨bp, 0, none⟩), .slice a 1 c, .pointer (some ⟨bf, 0, none⟩)] w (Plays E w X W (askS W (at0 xs 0) fN, W)) := by
 obtain ⟨b0, o0, x0, rfl, hat, hg, ho, hc⟩ := h.at0 (k := 0) (by omega)
 rw [at0_of hat]
 refine fn_intro tabOk Tryz.func242 (by kernel_rfl) rfl Tryz.ntmps242 (lbO rfl) ?_
 have hS := St.start w No
 conv=>whnf
 (refine drawS tabOk mixed [] (No) [0, 1, 2, 3, 4, 5, 6, 7, 8, 9, 10, 11, 12] (by kernel_rfl) ?_; rintro w1 rfl; replace hS := hS.drew)
 conv=>whnf
 refine Ev.ldFc h.cell id ?_
 conv=>whnf
 refine ixO ?_
 conv=>whnf
 refine Ev.ldFc hc id ?_
 conv=>whnf
 refine (wnode_ok x0 (h.st.no (Ext.drawn _ _ _))).mono ?_
 rintro v w2 ⟨rfl, hx⟩
 refine KeepC.mk hx ?_
 have hx2 : Ext No w w2 := (Ext.drawn No _ _).trans hx
 by_cases hu : W.upErr x0 = 0
 · obtain ⟨hn, N, hN⟩ := upErr_in hu
   obtain ⟨hH, hO⟩ := (h.st.no hx2).node hn hN
   have hi := hI N hO
   have hres : askS W x0 fN = (Lib.itoa (fN N), 0) := by
     unfold askS
     rw [hN]
     exact if_pos hu
   rw [hres, hu, if_pos rfl]
   conv=>whnf
   refine ldc ((hf.cell 0).trans rfl |> fun e => hx2.cell e id) ?_
   conv=>whnf
   refine (hk x0 N w2 hx2 hN hH hO).mono ?_
   rintro v w3 ⟨rfl, hx3⟩
   replace hx2 := hx2.trans hx3
   conv=>whnf
   refine (itoa_ok _ hi.1 hi.2 _ (hP.no hx2)).mono ?_
   rintro v w4 ⟨rfl, hx4⟩
   replace hx2 := hx2.trans hx4
   repeat' ((conv => whnf); first | refine RetC.mk ?_ | refine NzC.mk (by decide) ?_ | refine rgO ?_ | refine ixO ?_ | refine brD ?_ ?_ <;> (intro) | refine brND ?_ ?_ <;> (intro) | refine brN ?_ ?_ <;> (intro) | refine brI ?_ ?_ <;> (intro))
   exact ⟨rfl, X, rfl, Turns.of_no h.st.has hx2⟩
 · have hres : askS W x0 fN = ([], W.upErr x0) := by
     unfold askS
     split
     · rfl
     · rw [if_neg hu]
   rw [hres, if_neg hu]
   obtain ⟨j, hj⟩ : ∃ j, W.upErr x0 = j + 1 := ⟨W.upErr x0 - 1, by omega⟩
   rw [hj]
   repeat' ((conv => whnf); first | refine RetC.mk ?_ | refine NzC.mk (by decide) ?_ | refine rgO ?_ | refine ixO ?_ | refine brD ?_ ?_ <;> (intro) | refine brND ?_ ?_ <;> (intro) | refine brN ?_ ?_ <;> (intro) | refine brI ?_ ?_ <;> (intro))
   exact ⟨rfl, X, rfl, Turns.of_no h.st.has hx2⟩
theorem look_fly (h : Sits E q m w X W bp a n xs) (hP : Pow10 w) : CallC Tryz.prog 153 #[.pointer (some ⟨bp, 0, none⟩), .slice a n c] w (Plays E w X W ((Lib.itoa (W.fly.length : Nat), 0), W)) := by
 have hfl := h.st.ok.fly
 refine fn_intro tabOk Tryz.func153 (by kernel_rfl) rfl Tryz.ntmps153 (lbO rfl) ?_
 conv=>whnf
 refine ldc h.cell ?_
 conv=>whnf
 refine (wfly_ok h.st.has).mono ?_
 rintro v w2 ⟨rfl, rfl⟩
 conv=>whnf
 refine (itoa_ok _ (by omega) (by omega) _ hP).mono ?_
 rintro v w2 ⟨rfl, hx⟩
 repeat' ((conv => whnf); first | refine RetC.mk ?_ | refine NzC.mk (by decide) ?_ | refine rgO ?_ | refine ixO ?_ | refine brD ?_ ?_ <;> (intro) | refine brND ?_ ?_ <;> (intro) | refine brN ?_ ?_ <;> (intro) | refine brI ?_ ?_ <;> (intro))
 exact ⟨rfl, X, rfl, Turns.of_no h.st.has hx⟩
theorem look_switch (h : Sits E q m w X W bp a n xs) (hE : EpW W) (hP : Pow10 w) : CallC Tryz.prog 158 #[.pointer (some ⟨bp, 0, none⟩), .slice a n c] w (Plays E w X W ((if W.to < 0 then tNothing else Lib.itoa W.to ++ [32] ++ Lib.itoa W.epoch, 0), W)) := by
 have hto := h.st.ok.to
 have hep := hE.sw.i64
 have e1 := Lib.itoa_length_le W.to (by omega) (by omega)
 have e2 := Lib.itoa_length_le W.epoch hep.1 hep.2
 refine fn_intro tabOk Tryz.func158 (by kernel_rfl) rfl Tryz.ntmps158 (lbO rfl) ?_
 conv=>whnf
 refine ldc h.cell ?_
 conv=>whnf
 refine (wswitch_ok h.st.has).mono ?_
 rintro v w2 ⟨rfl, hx⟩
 conv=>whnf
 refine brD (fun h1 => ?_) (fun h1 => ?_)
 · rw [if_pos h1]
   repeat' ((conv => whnf); first | refine RetC.mk ?_ | refine NzC.mk (by decide) ?_ | refine rgO ?_ | refine ixO ?_ | refine brD ?_ ?_ <;> (intro) | refine brND ?_ ?_ <;> (intro) | refine brN ?_ ?_ <;> (intro) | refine brI ?_ ?_ <;> (intro))
   exact ⟨rfl, X, rfl, Turns.of_no h.st.has hx⟩
 · rw [if_neg h1]
   conv=>whnf
   refine (itoa_ok _ (by omega) (by omega) _ (hP.no hx)).mono ?_
   rintro v w3 ⟨rfl, hx3⟩
   replace hx := hx.trans hx3
   conv=>whnf
   refine addS (b := [32]) (by simp; omega) ?_
   conv=>whnf
   refine (itoa_ok _ hep.1 hep.2 _ (hP.no hx)).mono ?_
   rintro v w4 ⟨rfl, hx4⟩
   replace hx := hx.trans hx4
   conv=>whnf
   refine addS (by simp; omega) ?_
   repeat' ((conv => whnf); first | refine RetC.mk ?_ | refine NzC.mk (by decide) ?_ | refine rgO ?_ | refine ixO ?_ | refine brD ?_ ?_ <;> (intro) | refine brND ?_ ?_ <;> (intro) | refine brN ?_ ?_ <;> (intro) | refine brI ?_ ?_ <;> (intro))
   exact ⟨rfl, X, rfl, Turns.of_no h.st.has hx⟩
theorem look_events (h : Sits E q m w X W bp a n xs) (hE : EpW W) (hP : Pow10 w) : CallC Tryz.prog 170 #[.pointer (some ⟨bp, 0, none⟩), .slice a n c] w (Plays E w X W ((eventsT W.events, 0), W)) := by
 refine fn_intro tabOk Tryz.func170 (by kernel_rfl) rfl Tryz.ntmps170 (lbO rfl) ?_
 conv=>whnf
 refine ldc h.cell ?_
 conv=>whnf
 refine (wevents_ok h.st).mono ?_
 rintro v w2 ⟨a', c', rfl, hx, ho, hf⟩
 conv=>whnf
 refine (sevents_ok (ownL_slc codEv ho fun e he => ⟨by rcases (hE.ev e he).1 with h | h <;> rw [h] <;> exact ⟨by decide, by decide⟩, (hE.ev e he).2.i64⟩) h.st.ok.events (hP.no hx)).mono ?_
 rintro v w3 ⟨rfl, hx3⟩
 repeat' ((conv => whnf); first | refine RetC.mk ?_ | refine NzC.mk (by decide) ?_ | refine rgO ?_ | refine ixO ?_ | refine brD ?_ ?_ <;> (intro) | refine brND ?_ ?_ <;> (intro) | refine brN ?_ ?_ <;> (intro) | refine brI ?_ ?_ <;> (intro))
 exact ⟨rfl, X, rfl, Turns.of_no h.st.has (hx.trans hx3)⟩
theorem look_active (h : Sits E q m w X W bp a 1 xs) : CallC Tryz.prog 155 #[.pointer (some ⟨bp, 0, none⟩), .slice a 1 c] w (Plays E w X W ((activeS W (at0 xs 0), 0), W)) := by
 obtain ⟨b0, o0, x0, rfl, hat, hg, ho, hc⟩ := h.at0 (k := 0) (by omega)
 rw [at0_of hat]
 refine fn_intro tabOk Tryz.func155 (by kernel_rfl) rfl Tryz.ntmps155 (lbO rfl) ?_
 have hS := St.start w No
 conv=>whnf
 (refine drawS tabOk mixed [] (No) [0, 1, 2, 3, 4, 5, 6, 7, 8, 9, 10, 11, 12] (by kernel_rfl) ?_; rintro w1 rfl; replace hS := hS.drew)
 conv=>whnf
 refine Ev.ldFc h.cell id ?_
 conv=>whnf
 refine ixO ?_
 conv=>whnf
 refine Ev.ldFc hc id ?_
 conv=>whnf
 refine (wnode_ok x0 (h.st.no (Ext.drawn _ _ _))).mono ?_
 rintro v w2 ⟨rfl, hx⟩
 refine KeepC.mk hx ?_
 have hx2 : Ext No w w2 := (Ext.drawn No _ _).trans hx
 by_cases hu : W.upErr x0 = 0
 · obtain ⟨hn, N, hN⟩ := upErr_in hu
   obtain ⟨hH, hO⟩ := (h.st.no hx2).node hn hN
   have hres : activeS W x0 = if N.role.active = true then tYes else tNo := by
     unfold activeS
     rw [hN]
     exact if_pos hu
   rw [hres, hu, if_pos rfl]
   have hS := hH.start
   conv=>whnf
   refine hS.ld 0 rfl rfl ?_
   conv=>whnf
   refine (role_active (hS.blk 1 rfl)).mono ?_
   rintro v w3 ⟨rfl, rfl⟩
   conv=>whnf
   refine brI (fun h1 => ?_) (fun h1 => ?_)
   · rw [if_pos h1]
     repeat' ((conv => whnf); first | refine RetC.mk ?_ | refine NzC.mk (by decide) ?_ | refine rgO ?_ | refine ixO ?_ | refine brD ?_ ?_ <;> (intro) | refine brND ?_ ?_ <;> (intro) | refine brN ?_ ?_ <;> (intro) | refine brI ?_ ?_ <;> (intro))
     exact ⟨rfl, X, rfl, Turns.of_no h.st.has hx2⟩
   · rw [if_neg (by rw [h1]; decide)]
     repeat' ((conv => whnf); first | refine RetC.mk ?_ | refine NzC.mk (by decide) ?_ | refine rgO ?_ | refine ixO ?_ | refine brD ?_ ?_ <;> (intro) | refine brND ?_ ?_ <;> (intro) | refine brN ?_ ?_ <;> (intro) | refine brI ?_ ?_ <;> (intro))
     exact ⟨rfl, X, rfl, Turns.of_no h.st.has hx2⟩
 · have hres : activeS W x0 = tDown := by
     unfold activeS
     split
     · rfl
     · rw [if_neg hu]
   rw [hres, if_neg hu]
   obtain ⟨j, hj⟩ : ∃ j, W.upErr x0 = j + 1 := ⟨W.upErr x0 - 1, by omega⟩
   rw [hj]
   repeat' ((conv => whnf); first | refine RetC.mk ?_ | refine NzC.mk (by decide) ?_ | refine rgO ?_ | refine ixO ?_ | refine brD ?_ ?_ <;> (intro) | refine brND ?_ ?_ <;> (intro) | refine brN ?_ ?_ <;> (intro) | refine brI ?_ ?_ <;> (intro))
   exact ⟨rfl, X, rfl, Turns.of_no h.st.has hx2⟩
theorem look_all (h : Sits E q m w X W bp a n xs) (hP : ∀ w' X' W', X'.w = X.w → Turns w w' (worldH X W) (worldH X' W') → Pow10 w') : CallC Tryz.prog 151 #[.pointer (some ⟨bp, 0, none⟩), .slice a n c] w (Plays E w X W ((Lib.itoa (W.fly.length : Nat), 0), W.land W.fly.length)) := by
 have hfl := h.st.ok.fly
 have hcell := h.cell
 have hplo := h.plo
 have hst0 := h.st
 refine fn_intro tabOk Tryz.func151 (by kernel_rfl) rfl Tryz.ntmps151 (lbO rfl) ?_
 conv=>whnf
 refine loopR tabOk (fun σ w' r => ∃ (i : Nat) (X4 : WorldA) (V4 : WorldS), σ = [(6, .int .i64 i), (0, .pointer (some ⟨bp, 0, none⟩))] ∧ r = V4.fly.length ∧ i + V4.fly.length = W.fly.length ∧ X4.w = X.w ∧ Stands E q m w' X4 V4 ∧ Turns w w' (worldH X W) (worldH X4 V4) ∧ W.land W.fly.length = V4.land V4.fly.length)
   (σ' := [(6, .int .i64 ((0 : Nat) : Int)), (0, .pointer (some ⟨bp, 0, none⟩))]) (n := W.fly.length) ⟨rfl, rfl, trivial⟩ ⟨0, X, W, rfl, rfl, Nat.zero_add _, rfl, hst0, Turns.refl hst0.has, rfl⟩ ?_
 rintro _ w4 r ⟨i, X4, V4, rfl, rfl, hi, hw4, hst4, hT4, hr4⟩
 have hcell4 : w4.cell? ⟨bp, 0, none⟩ = some (.pointer (some ⟨X4.w, 0, none⟩)) := by rw [hw4]; exact hT4.ext.cell hcell hplo
 conv=>whnf
 refine ldc hcell4 ?_
 conv=>whnf
 refine (wdeliver_ok 0 hst4).mono ?_
 rintro v w5 ⟨rfl, X5, hw5, hT5⟩
 cases hf : V4.fly.length with
 | zero =>
   rw [deliver_none hf] at hT5 ⊢
   have hT6 := hT4.trans hT5
   conv=>whnf
   obtain rfl : i = W.fly.length := by omega
   refine (itoa_ok _ (by omega) (by omega) _ (hP _ _ _ (hw5.trans hw4) hT6)).mono ?_
   rintro v w6 ⟨rfl, hx⟩
   repeat' ((conv => whnf); first | refine RetC.mk ?_ | refine NzC.mk (by decide) ?_ | refine rgO ?_ | refine ixO ?_ | refine brD ?_ ?_ <;> (intro) | refine brND ?_ ?_ <;> (intro) | refine brN ?_ ?_ <;> (intro) | refine brI ?_ ?_ <;> (intro))
   rw [hr4, hf]
   exact ⟨rfl, X5, hw5.trans hw4, hT6.trans (Turns.of_no hT6.has hx)⟩
 | succ l =>
   obtain ⟨hd1, hd2⟩ := deliver0 hf
   rw [hd1]
   conv=>whnf
   refine rgO ?_
   conv=>whnf
   refine LoopE.mk ⟨_, [(6, .int .i64 ((i + 1 : Nat) : Int)), (0, _)], ?_, ⟨rfl, rfl, trivial⟩, ⟨i + 1, X5, (V4.deliver 0).2, rfl, rfl, by omega, hw5.trans hw4, hst4.turns hT5 (hst4.ok.deliver 0), hT4.trans hT5, ?_⟩⟩
   · omega
   · rw [hr4, hf, hd2]
     show (if V4.fly.length = 0 then _ else _) = _
     rw [if_neg (by omega)]
end
end Go.Proofs.YtogjajjdaoihdaaGreatDoor

namespace Go.Proofs.YtogjajjdaoihdaaGreatDoor
set_option maxRecDepth 20000
open Go Ev
section
variable {w w' : World} {X : WorldA} {W : WorldS} {E : Nat → Addr} {q m bp n c : Nat} {a : Option Addr} {xs : List Int} {W0 : World}
theorem NOk.asks {N : NodeS} (h : NOk m N) : I64 (flowsN N.tab.cells : Nat) ∧ I64 (flowsN N.mir.cells : Nat) ∧ I64 N.role.epoch ∧ I64 (N.cell.li : Nat) := by
 have h1 := flowsN_le N.tab.cells
 have h2 := flowsN_le N.mir.cells
 have h3 := h.tab.len
 have h4 := h.mir
 have h5 := h.role.e0
 have h6 := h.role.e1
 have h7 := h.li
 exact ⟨⟨by omega, by omega⟩, ⟨by omega, by omega⟩, ⟨by omega, by omega⟩, ⟨by omega, by omega⟩⟩
def Runs (E : Nat → Addr) (q m : Nat) (X : WorldA) (W : WorldS) (w : World) (d : Cmd) (cs : List Value) : Prop :=
 (∃ f, cs = [.string (bs d.form), fnV f []] ∧ ∀ {w' : World} {bp c : Nat} {a : Option Addr} {xs : List Int}, Ext No w w' → Sits E q m w' X W bp a d.form.length xs → (d = .tick → m + 34 * (at0 xs 1).toNat ≤ 40000000) → CallC Tryz.prog f #[.pointer (some ⟨bp, 0, none⟩), .slice a d.form.length c] w' (Plays E w' X W (d.does xs W))) ∨
 (∃ f b, cs = [.string (bs d.form), fnV f [.pointer (some ⟨b, 0, none⟩)]] ∧ ∀ {w' : World} {bp c : Nat} {a : Option Addr} {xs : List Int}, Ext No w w' → Sits E q m w' X W bp a d.form.length xs → (d = .tick → m + 34 * (at0 xs 1).toNat ≤ 40000000) → CallC Tryz.prog f #[.pointer (some ⟨bp, 0, none⟩), .slice a d.form.length c, .pointer (some ⟨b, 0, none⟩)] w' (Plays E w' X W (d.does xs W)))
theorem IsAct.runs {d : Cmd} {cs : List Value} (hd : d ∈ actsL) (h : IsAct w d cs) : Runs E q m X W w d cs := by
 obtain ⟨b, rfl, hB⟩ := h
 exact .inr ⟨_, b, rfl, fun hx hs hm => one_call hd (hx.blk hB id) hs rfl hm⟩
theorem IsLook.runs {d : Cmd} {cs : List Value} (hd : d ∈ looksL) (h : IsLook w d cs) (hE : EpW W) (hP : ∀ w', Ext No w w' → Pow10 w') (hA : ∀ w2 w' X' W', Ext No w w2 → X'.w = X.w → Turns w2 w' (worldH X W) (worldH X' W') → Pow10 w') : Runs E q m X W w d cs := by
 unfold IsLook at h
 simp only [looksL, List.mem_cons, List.not_mem_nil, or_false] at hd
 rcases hd with rfl | rfl | rfl | rfl | rfl | rfl | rfl | rfl | rfl
 · rw [if_neg (by decide)] at h
   exact .inl ⟨_, h, fun hx hs _ => look_all hs fun w' X' W' hw k => hA _ w' X' W' hx hw k⟩
 · rw [if_neg (by decide)] at h
   exact .inl ⟨_, h, fun hx hs _ => look_fly hs (hP _ hx)⟩
 · rw [if_neg (by decide)] at h
   exact .inl ⟨_, h, fun hx hs _ => look_active hs⟩
 · rw [if_neg (by decide)] at h
   exact .inl ⟨_, h, fun hx hs _ => look_switch hs hE (hP _ hx)⟩
 · rw [if_pos (by decide)] at h
   obtain ⟨b, rfl, hB⟩ := h
   exact .inr ⟨_, b, rfl, fun hx hs _ => ask_call (hx.blk hB id) hs (hP _ hx) (fun N hN => hN.asks.1) asks_flows⟩
 · rw [if_pos (by decide)] at h
   obtain ⟨b, rfl, hB⟩ := h
   exact .inr ⟨_, b, rfl, fun hx hs _ => ask_call (hx.blk hB id) hs (hP _ hx) (fun N hN => hN.asks.2.1) asks_mirror⟩
 · rw [if_pos (by decide)] at h
   obtain ⟨b, rfl, hB⟩ := h
   exact .inr ⟨_, b, rfl, fun hx hs _ => ask_call (hx.blk hB id) hs (hP _ hx) (fun N hN => hN.asks.2.2.1) asks_epoch⟩
 · rw [if_pos (by decide)] at h
   obtain ⟨b, rfl, hB⟩ := h
   exact .inr ⟨_, b, rfl, fun hx hs _ => ask_call (hx.blk hB id) hs (hP _ hx) (fun N hN => hN.asks.2.2.2) asks_life⟩
 · rw [if_neg (by decide)] at h
   exact .inl ⟨_, h, fun hx hs _ => look_events hs hE (hP _ hx)⟩
theorem carry_bad {s : List UInt8} {p : PktS} {f : PktS → Nat × PktS × WorldS} (h : readPk s = (p, false)) : carryS s f W = (([], 1), W) := by
 unfold carryS
 rw [h]
 exact if_pos rfl
theorem carry_err {s : List UInt8} {p : PktS} {f : PktS → Nat × PktS × WorldS} (h : readPk s = (p, true)) (he : (f p).1 ≠ 0) : carryS s f W = (([], (f p).1), (f p).2.2) := by
 unfold carryS
 rw [h, if_neg (fun h => by cases h), if_pos he]
theorem carry_good {s : List UInt8} {p : PktS} {f : PktS → Nat × PktS × WorldS} (h : readPk s = (p, true)) (he : (f p).1 = 0) : carryS s f W = ((if (f p).2.1.err = 0 then (f p).2.1.text else [], (f p).2.1.err), (f p).2.2) := by
 unfold carryS
 rw [h, if_neg (fun h => by cases h), if_neg (fun h => h he)]
theorem scarry_inside (B : Base E W0) (h : Stands E W0.heap.size m w X W) (hx0 : Ext No W0 w) (s : List UInt8) (hl : s.length ≤ 100000) (hm : m + 1 ≤ 50000000) :
   CallC Tryz.prog 76 #[.pointer (some ⟨bp, 0, none⟩), .string (bs s), .func (.func 77) #[.pointer (some ⟨X.w, 0, none⟩)] #[]] w (Plays E w X W (carryS s W.inside W)) := by
 refine fn_intro tabOk Tryz.func76 (by kernel_rfl) rfl Tryz.ntmps76 (lbO rfl) ?_
 have hS := St.start w No
 conv=>whnf
 refine (packetRead_ok s hl w (B.maxl.no hx0) (B.numv.no hx0) (B.pow.no hx0) (B.names.no hx0) ((B.errs.ext hx0 fun _ h => h.elim).sub rfl)).mono ?_
 rintro v w1 ⟨⟨p, k, rfl, hp⟩, hx⟩
 replace hS := hS.no hx
 have hrd := readPk_of hp
 conv=>whnf
 refine hS.new (fun b8 w' hb8 hS => ?_)
 conv=>whnf
 refine hS.st 0 rfl (lbO rfl) rfl (fun w' hS => ?_)
 replace hS : St w No w' [blk b8 41 (encPkt p)] := hS
 cases k with
 | false =>
   rw [carry_bad hrd]
   repeat' ((conv => whnf); first | refine RetC.mk ?_ | refine NzC.mk (by decide) ?_ | refine rgO ?_ | refine ixO ?_ | refine brD ?_ ?_ <;> (intro) | refine brND ?_ ?_ <;> (intro) | refine brN ?_ ?_ <;> (intro) | refine brI ?_ ?_ <;> (intro))
   exact ⟨rfl, X, rfl, Turns.of_no h.has hS.ext⟩
 | true =>
   conv=>whnf
   refine hS.laX 0 rfl rfl ?_
   conv=>whnf
   refine (winside_ok p (h.no hS.ext) hm).mono ?_
   rintro v w2 ⟨rfl, hk⟩
   have hT := (Turns.of_no h.has hS.ext).trans hk
   have hx2 := h.base hx0 hT
   have hce := @carry_err W s p W.inside hrd
   have hcg := @carry_good W s p W.inside hrd
   generalize W.inside p = R at hk hT hce hcg ⊢
   obtain ⟨e, y, W'⟩ := R
   dsimp only at hk hT hce hcg ⊢
   have hS2 := St.start w2 No
   conv=>whnf
   refine hS2.new (fun b10 w' hb10 hS => ?_)
   conv=>whnf
   refine hS.st 0 rfl (lbO rfl) rfl (fun w' hS => ?_)
   replace hS : St w2 No w' [blk b10 41 (encPkt y)] := hS
   cases e with
   | succ j =>
     rw [hce (Nat.succ_ne_zero j)]
     repeat' ((conv => whnf); first | refine RetC.mk ?_ | refine NzC.mk (by decide) ?_ | refine rgO ?_ | refine ixO ?_ | refine brD ?_ ?_ <;> (intro) | refine brND ?_ ?_ <;> (intro) | refine brN ?_ ?_ <;> (intro) | refine brI ?_ ?_ <;> (intro))
     exact ⟨rfl, X, rfl, hT.trans (Turns.of_no hT.has hS.ext)⟩
   | zero =>
     rw [hcg rfl]
     conv=>whnf
     refine hS.laX 0 rfl rfl ?_
     conv=>whnf
     have hx3 := hx2.trans hS.ext
     refine (ptextP_ok y _ ((B.errs.ext hx3 fun _ h => h.elim).sub rfl) (B.pow.no hx3) (B.names.no hx3)).mono ?_
     rintro v w4 ⟨rfl, hx4⟩
     replace hS := hS.no hx4
     repeat' ((conv => whnf); first | refine RetC.mk ?_ | refine NzC.mk (by decide) ?_ | refine rgO ?_ | refine ixO ?_ | refine brD ?_ ?_ <;> (intro) | refine brND ?_ ?_ <;> (intro) | refine brN ?_ ?_ <;> (intro) | refine brI ?_ ?_ <;> (intro))
     exact ⟨rfl, X, rfl, hT.trans (Turns.of_no hT.has hS.ext)⟩
theorem scarry_outside (B : Base E W0) (h : Stands E W0.heap.size m w X W) (hx0 : Ext No W0 w) (s : List UInt8) (hl : s.length ≤ 100000) (hm : m + 1 ≤ 50000000) :
   CallC Tryz.prog 76 #[.pointer (some ⟨bp, 0, none⟩), .string (bs s), .func (.func 78) #[.pointer (some ⟨X.w, 0, none⟩)] #[]] w (Plays E w X W (carryS s W.outside W)) := by
 refine fn_intro tabOk Tryz.func76 (by kernel_rfl) rfl Tryz.ntmps76 (lbO rfl) ?_
 have hS := St.start w No
 conv=>whnf
 refine (packetRead_ok s hl w (B.maxl.no hx0) (B.numv.no hx0) (B.pow.no hx0) (B.names.no hx0) ((B.errs.ext hx0 fun _ h => h.elim).sub rfl)).mono ?_
 rintro v w1 ⟨⟨p, k, rfl, hp⟩, hx⟩
 replace hS := hS.no hx
 have hrd := readPk_of hp
 conv=>whnf
 refine hS.new (fun b8 w' hb8 hS => ?_)
 conv=>whnf
 refine hS.st 0 rfl (lbO rfl) rfl (fun w' hS => ?_)
 replace hS : St w No w' [blk b8 41 (encPkt p)] := hS
 cases k with
 | false =>
   rw [carry_bad hrd]
   repeat' ((conv => whnf); first | refine RetC.mk ?_ | refine NzC.mk (by decide) ?_ | refine rgO ?_ | refine ixO ?_ | refine brD ?_ ?_ <;> (intro) | refine brND ?_ ?_ <;> (intro) | refine brN ?_ ?_ <;> (intro) | refine brI ?_ ?_ <;> (intro))
   exact ⟨rfl, X, rfl, Turns.of_no h.has hS.ext⟩
 | true =>
   conv=>whnf
   refine hS.laX 0 rfl rfl ?_
   conv=>whnf
   refine (woutside_ok p (h.no hS.ext) hm).mono ?_
   rintro v w2 ⟨rfl, hk⟩
   have hT := (Turns.of_no h.has hS.ext).trans hk
   have hx2 := h.base hx0 hT
   have hce := @carry_err W s p W.outside hrd
   have hcg := @carry_good W s p W.outside hrd
   generalize W.outside p = R at hk hT hce hcg ⊢
   obtain ⟨e, y, W'⟩ := R
   dsimp only at hk hT hce hcg ⊢
   have hS2 := St.start w2 No
   conv=>whnf
   refine hS2.new (fun b10 w' hb10 hS => ?_)
   conv=>whnf
   refine hS.st 0 rfl (lbO rfl) rfl (fun w' hS => ?_)
   replace hS : St w2 No w' [blk b10 41 (encPkt y)] := hS
   cases e with
   | succ j =>
     rw [hce (Nat.succ_ne_zero j)]
     repeat' ((conv => whnf); first | refine RetC.mk ?_ | refine NzC.mk (by decide) ?_ | refine rgO ?_ | refine ixO ?_ | refine brD ?_ ?_ <;> (intro) | refine brND ?_ ?_ <;> (intro) | refine brN ?_ ?_ <;> (intro) | refine brI ?_ ?_ <;> (intro))
     exact ⟨rfl, X, rfl, hT.trans (Turns.of_no hT.has hS.ext)⟩
   | zero =>
     rw [hcg rfl]
     conv=>whnf
     refine hS.laX 0 rfl rfl ?_
     conv=>whnf
     have hx3 := hx2.trans hS.ext
     refine (ptextP_ok y _ ((B.errs.ext hx3 fun _ h => h.elim).sub rfl) (B.pow.no hx3) (B.names.no hx3)).mono ?_
     rintro v w4 ⟨rfl, hx4⟩
     replace hS := hS.no hx4
     repeat' ((conv => whnf); first | refine RetC.mk ?_ | refine NzC.mk (by decide) ?_ | refine rgO ?_ | refine ixO ?_ | refine brD ?_ ?_ <;> (intro) | refine brND ?_ ?_ <;> (intro) | refine brN ?_ ?_ <;> (intro) | refine brI ?_ ?_ <;> (intro))
     exact ⟨rfl, X, rfl, hT.trans (Turns.of_no hT.has hS.ext)⟩
end
end Go.Proofs.YtogjajjdaoihdaaGreatDoor

namespace Go.Proofs.YtogjajjdaoihdaaGreatDoor
set_option maxRecDepth 20000
open Go Ev
theorem play_in {l : List UInt8} {W : WorldS} (h : (Lib.cut l [32]).1 = wInside) : playS l W = carryS (Lib.cut l [32]).2.1 W.inside W := by
 unfold playS
 rw [if_pos h]
theorem play_out {l : List UInt8} {W : WorldS} (h : (Lib.cut l [32]).1 ≠ wInside) (h2 : (Lib.cut l [32]).1 = wOutside) : playS l W = carryS (Lib.cut l [32]).2.1 W.outside W := by
 unfold playS
 rw [if_neg h, if_pos h2]
theorem play_none {l : List UInt8} {W : WorldS} (h : (Lib.cut l [32]).1 ≠ wInside) (h2 : (Lib.cut l [32]).1 ≠ wOutside) (h3 : cmdOf ((cutR 32 l).headD []) = none) : playS l W = (([], 1), W) := by
 unfold playS
 rw [if_neg h, if_neg h2, h3]
theorem play_bad {l : List UInt8} {W : WorldS} {d : Cmd} (h : (Lib.cut l [32]).1 ≠ wInside) (h2 : (Lib.cut l [32]).1 ≠ wOutside) (h3 : cmdOf ((cutR 32 l).headD []) = some d) (h4 : numsS d.form ((cutR 32 l).drop 1) = none) : playS l W = (([], 1), W) := by
 unfold playS
 rw [if_neg h, if_neg h2, h3]
 dsimp only
 rw [h4]
theorem play_cmd {l : List UInt8} {W : WorldS} {d : Cmd} {xs : List Int} (h : (Lib.cut l [32]).1 ≠ wInside) (h2 : (Lib.cut l [32]).1 ≠ wOutside) (h3 : cmdOf ((cutR 32 l).headD []) = some d) (h4 : numsS d.form ((cutR 32 l).drop 1) = some xs) : playS l W = d.does xs W := by
 unfold playS
 rw [if_neg h, if_neg h2, h3]
 dsimp only
 rw [h4]
theorem ticks_of {l : List UInt8} {d : Cmd} {xs : List Int} (h3 : cmdOf ((cutR 32 l).headD []) = some d) (h4 : numsS d.form ((cutR 32 l).drop 1) = some xs) (hd : d = .tick) : ticksOf l = (at0 xs 1).toNat := by
 subst hd
 unfold ticksOf
 rw [h3]
 dsimp only
 rw [h4]
theorem findC_mem {s : List UInt8} {d : Cmd} : ∀ {L : List Cmd}, findC s L = some d → d ∈ L ∧ s = d.word
 | [], h => by cases h
 | c :: L, h => by
   unfold findC at h
   split at h
   · cases h
     rename_i e
     exact ⟨List.mem_cons_self, e⟩
   · exact ⟨List.mem_cons_of_mem _ (findC_mem h).1, (findC_mem h).2⟩
theorem cmdOf_act {s : List UInt8} {d : Cmd} (h : findC s actsL = some d) : cmdOf s = some d := by
 unfold cmdOf
 rw [h]
theorem cmdOf_look {s : List UInt8} (h : findC s actsL = none) : cmdOf s = findC s looksL := by
 unfold cmdOf
 rw [h]
section
variable {w w' : World} {r : Nat} {L : List Cmd} {I : World → Cmd → List Value → Prop}
theorem IsAct.keep {d : Cmd} {cs : List Value} {b10 : Nat} {vs : List Value} (h : IsAct w d cs) (hx : Ext (· = b10) w w') (hb : Blk w b10 176 vs) : IsAct w' d cs := by
 obtain ⟨b, e, hB⟩ := h
 exact ⟨b, e, hx.blk hB (hB.ne hb (by decide))⟩
theorem IsLook.keep {d : Cmd} {cs : List Value} {b10 : Nat} {vs : List Value} (h : IsLook w d cs) (hx : Ext (· = b10) w w') (hb : Blk w b10 176 vs) : IsLook w' d cs := by
 unfold IsLook at h ⊢
 split at h
 · rename_i e
   rw [if_pos e]
   obtain ⟨b, e, hB⟩ := h
   exact ⟨b, e, hx.blk hB (hB.ne hb (by decide))⟩
 · rename_i e
   rw [if_neg e]
   exact h
theorem IsAct.no {d : Cmd} {cs : List Value} (h : IsAct w d cs) (hx : Ext No w w') : IsAct w' d cs := by
 obtain ⟨b, e, hB⟩ := h
 exact ⟨b, e, hx.blk hB id⟩
theorem Finds.no (h : Finds w r L I) (hI : ∀ {d cs}, I w d cs → I w' d cs) (hx : Ext No w w') : Finds w' r L I := by
 obtain ⟨l, n, hb, hall⟩ := h
 refine ⟨l, n, (hx.block r (Array.getElem?_eq_some_iff.1 hb).1 id).trans hb, fun s => ?_⟩
 rcases hall s with h | ⟨d, i, cs, h1, h2, h3, h4⟩
 · exact .inl h
 · exact .inr ⟨d, i, cs, h1, h2, h3, hI h4⟩
theorem Finds.look (h : Finds w r L I) (s : List UInt8) {k : Value → World → Prop} (h1 : findC s L = none → k (.tuple #[.agg #[.string (bs []), .nilFunc], .bool false]) w) (h2 : ∀ d cs, findC s L = some d → I w d cs → k (.tuple #[.agg cs.toArray, .bool true]) w) :
   RunC Tryz.prog (Instr.lookup 178 (.map (some r)) (.string (bs s)) true) w k := by
 obtain ⟨l, n, hb, hall⟩ := h
 refine ⟨_, _, mapLookS s hb, ?_⟩
 unfold sLook
 rcases hall s with ⟨e1, e2⟩ | ⟨d, i, cs, e1, _, e3, e4⟩
 · rw [e2]
   exact h1 e1
 · rw [e3]
   exact h2 d cs e1 e4
theorem Finds.lookA (h : Finds w r actsL IsAct) (s : List UInt8) {k : Value → World → Prop} (h1 : findC s actsL = none → k (.tuple #[.agg #[.string (bs []), .nilFunc], .bool false]) w)
   (h2 : ∀ d b, findC s actsL = some d → IsAct w d [.string (bs d.form), .func (.func 231) #[] #[.pointer (some ⟨b, 0, none⟩)]] → k (.tuple #[.agg #[.string (bs d.form), .func (.func 231) #[] #[.pointer (some ⟨b, 0, none⟩)]], .bool true]) w) :
   RunC Tryz.prog (Instr.lookup 178 (.map (some r)) (.string (bs s)) true) w k :=
 h.look s h1 fun d cs e hI => by
   obtain ⟨b, rfl, hB⟩ := hI
   exact h2 d b e ⟨b, rfl, hB⟩
theorem Finds.lookL (h : Finds w r looksL IsLook) (s : List UInt8) {k : Value → World → Prop} (h1 : findC s looksL = none → k (.tuple #[.agg #[.string (bs []), .nilFunc], .bool false]) w)
   (h2 : ∀ d b, findC s looksL = some d → IsLook w d [.string (bs d.form), .func (.func 242) #[] #[.pointer (some ⟨b, 0, none⟩)]] → k (.tuple #[.agg #[.string (bs d.form), .func (.func 242) #[] #[.pointer (some ⟨b, 0, none⟩)]], .bool true]) w)
   (h3 : ∀ d f, findC s looksL = some d → IsLook w d [.string (bs d.form), .func (.func f) #[] #[]] → k (.tuple #[.agg #[.string (bs d.form), .func (.func f) #[] #[]], .bool true]) w) :
   RunC Tryz.prog (Instr.lookup 178 (.map (some r)) (.string (bs s)) true) w k :=
 h.look s h1 fun d cs e hI => by
   have hI' := hI
   unfold IsLook at hI'
   split at hI'
   · obtain ⟨b, rfl, hB⟩ := hI'
     exact h2 d b e hI
   · subst hI'
     exact h3 d _ e hI
end
theorem Ev.St.newX {w0 w1 w : World} {S T : Nat → Prop} {H : List Ent} (h : St w0 S w H) (hK : Ext T w1 w) {t : TypeId} {cs : List Value} {k : Value → World → Prop} (hk : ∀ b w', w.heap.size ≤ b → Ext No w w' → Ext T w1 w' → St w0 S w' (H ++ [Ev.blk b t cs]) → k (.pointer (some ⟨b, 0, none⟩)) w') : NewC w t cs k := by
 refine ⟨hk w.heap.size _ (Nat.le_refl _) (Ext.push _ _ _ _) (hK.trans (Ext.push _ _ _ _)) (h.made (Ext.push _ _ _ _) (blk_local _ _ _) (show (w.heap.push _)[w.heap.size]? = _ by rw [Array.getElem?_push, if_pos rfl]) ?_)⟩
 intro b hb
 obtain rfl : b = w.heap.size := by simpa [Ev.blk] using hb
 simp [pushBlk]
theorem Ev.St.stY {w0 w1 w : World} {S T : Nat → Prop} {H : List Ent} (h : St w0 S w H) (hK : Ext T w1 w) (i : Nat) {b o : Nat} {t : TypeId} {cs vs : List Value} {k : World → Prop} (hi : H[i]? = some (Ev.blk b t cs)) (hle : o + vs.length ≤ cs.length) (h1 : vs.all isOne = true) (hT : T b)
   (hk : ∀ w', Ext (· = b) w w' → Ext T w1 w' → St w0 S w' (H.set i (Ev.blk b t (over cs o vs))) → k w') : StC w b o vs k := by
 have hb := h.blk i hi
 have hx : Ext (· = b) w (setBlk w b t (over cs o vs)) := Ext.set (S := (· = b)) (b := b) rfl t _
 exact ⟨t, cs, hb, hle, by simpa using h1, hk _ hx (hK.trans (hx.mono fun c hc => hc ▸ hT)) (h.upd i hi hx (fun c hc => by simp [Ev.blk, hc]) (blk_local _ _ _) (setBlk_blk hb.lt) (fun c hc => .inl hc))⟩
end Go.Proofs.YtogjajjdaoihdaaGreatDoor

namespace Go.Proofs.YtogjajjdaoihdaaGreatDoor
set_option maxRecDepth 20000
open Go Ev
section
variable {w w' : World} {X : WorldA} {W : WorldS} {E : Nat → Addr} {m bp : Nat} {W0 : World}
set_option maxHeartbeats 4000000 in
theorem splay_ok (B : Base E W0) (h : Stands E W0.heap.size m w X W) (hx0 : Ext No W0 w) (hply : Blk w bp 90 [.pointer (some ⟨X.w, 0, none⟩)]) (hplo : ¬ inF (worldH X W) bp) (hE : EpW W) (line : List UInt8) (hl : line.length ≤ 100000) (hm : m + (34 * ticksOf line + 1) ≤ 40000000) :
   CallC Tryz.prog 34 #[.pointer (some ⟨bp, 0, none⟩), .string (bs line)] w (Plays E w X W (playS line W)) := by
 have hcl : (Lib.cut line [32]).2.1.length ≤ line.length := by
   obtain ⟨x, y, k, e, _, h2⟩ := cut_small line 32
   rw [e]
   exact h2
 refine fn_intro tabOk Tryz.func34 (by kernel_rfl) rfl Tryz.ntmps34 (lbO rfl) ?_
 have hS := St.start w No
 conv=>whnf
 refine (cutT_ok line 32 w hl (B.maxl.no hx0)).mono ?_
 rintro v w1 ⟨rfl, hx1⟩
 replace hS := hS.no hx1
 conv=>whnf
 refine eqS2 (b := wInside) ?_
 conv=>whnf
 refine brD (fun hni => ?_) (fun hni => ?_)
 · skip
   rw [play_in hni]
   conv=>whnf
   refine ldc (hS.ext.cell (hply.cell 0) id) ?_
   conv=>whnf
   refine (scarry_inside B (h.no hS.ext) (hx0.trans hS.ext) _ (Nat.le_trans hcl hl) (by omega)).mono ?_
   rintro v w2 ⟨rfl, X', hw2, hT2⟩
   repeat' ((conv => whnf); first | refine RetC.mk ?_ | refine NzC.mk (by decide) ?_ | refine rgO ?_ | refine ixO ?_ | refine brD ?_ ?_ <;> (intro) | refine brND ?_ ?_ <;> (intro) | refine brN ?_ ?_ <;> (intro) | refine brI ?_ ?_ <;> (intro))
   exact ⟨rfl, X', hw2, (Turns.of_no h.has hS.ext).trans hT2⟩
 conv=>whnf
 refine eqS2 (b := wOutside) ?_
 conv=>whnf
 refine brD (fun hno => ?_) (fun hno => ?_)
 · skip
   rw [play_out hni hno]
   conv=>whnf
   refine ldc (hS.ext.cell (hply.cell 0) id) ?_
   conv=>whnf
   refine (scarry_outside B (h.no hS.ext) (hx0.trans hS.ext) _ (Nat.le_trans hcl hl) (by omega)).mono ?_
   rintro v w2 ⟨rfl, X', hw2, hT2⟩
   repeat' ((conv => whnf); first | refine RetC.mk ?_ | refine NzC.mk (by decide) ?_ | refine rgO ?_ | refine ixO ?_ | refine brD ?_ ?_ <;> (intro) | refine brND ?_ ?_ <;> (intro) | refine brN ?_ ?_ <;> (intro) | refine brI ?_ ?_ <;> (intro))
   exact ⟨rfl, X', hw2, (Turns.of_no h.has hS.ext).trans hT2⟩
 obtain ⟨t0, ws, hw⟩ := cutR_cons 32 line
 have hlen : ∀ t ∈ t0 :: ws, t.length ≤ 100000 := fun t ht => Nat.le_trans (cutR_mem_len (c := 32) (l := line) (hw ▸ ht)) hl
 have hwl : (t0 :: ws).length ≤ 100001 := by
   rw [← hw]
   exact Nat.le_trans (cutR_len 32 line) (by omega)
 conv=>whnf
 refine (split_ok line 32 w1 hl (B.maxl.no (hx0.trans hS.ext))).mono ?_
 rintro v w2 ⟨⟨bw, rfl, hbw, hB⟩, hx2⟩
 rw [hw] at hB ⊢
 replace hS := hS.made hx2 (blk_local _ _ _) hB (by intro g hg; obtain rfl := List.mem_singleton.1 hg; exact ⟨hbw, hB.lt⟩)
 replace hS : St w No w2 [blk bw 9 ((t0 :: ws).map fun l => .string (bs l))] := hS
 clear hx1 hx2 hB hbw
 obtain ⟨n, hnl⟩ : ∃ n, (t0 :: ws).length = n := ⟨_, rfl⟩
 rw [hnl] at hwl ⊢
 have hn1 : 1 ≤ n := by rw [← hnl]; exact Nat.succ_pos _
 have hP : ∀ w', Ext No w w' → Pow10 w' := fun w' hx => B.pow.no (hx0.trans hx)
 have hA : ∀ w2 w3 X' W', Ext No w w2 → X'.w = X.w → Turns w2 w3 (worldH X W) (worldH X' W') → Pow10 w3 := fun w2 w3 X' W' hx _ k => B.pow.no ((h.no hx).base (hx0.trans hx) k)
 conv=>whnf
 refine DrawC.cut (fun σ w' => ∃ b10 cs k, σ = [(11, .bool k), (10, .pointer (some ⟨b10, 0, none⟩)), (9, .slice (some ⟨bw, 0, none⟩) n n), (0, .pointer (some ⟨bp, 0, none⟩))] ∧ St w No w' [blk bw 9 ((t0 :: ws).map fun l => .string (bs l)), blk b10 176 cs] ∧ ((k = true ∧ ∃ d, findC t0 actsL = some d ∧ IsAct w' d cs) ∨ (k = false ∧ findC t0 actsL = none ∧ cs = [.string (bs []), .nilFunc]))) ?_ ?_
 · refine drawT tabOk mixed [] ((· ≠ bw)) (.take 1 (.take 2 (.take 3 (.alt 0 (.alt 4 (.take 5 (.take 6 (.take 7 (.alt 8 (.alt 9 (.take 10 .fin) .fin) .fin)))) (.alt 8 (.alt 4 (.take 5 (.take 6 (.take 7 (.alt 9 (.take 10 .fin) .fin)))) .fin) .fin)) (.alt 8 (.alt 0 (.alt 4 (.take 5 (.take 6 (.take 7 (.alt 9 (.take 10 .fin) .fin)))) .fin) .fin) .fin))))) (by kernel_rfl) ?_
   rintro w3 rfl
   replace hS := hS.drew
   have hK := hS.ref (· ≠ bw)
   repeat' ((conv => whnf); first | refine And.intro ?_ ?_ | refine ixO ?_ | refine hS.ldF 0 rfl (v := .string (bs t0)) rfl (fun h => h rfl) ?_ | (refine (acts_ok _).mono ?_; rintro v w5 ⟨⟨r, rfl, hfd⟩, hx'⟩; replace hS := hS.no hx'; replace hK := hK.trans hx'.of_no; clear hx'; refine KeepC.mk hK ?_) | (refine hS.newX hK (fun b10 w' hb10 hxn hK hS => KeepC.mk hK ?_); try (replace hfd := hfd.no (fun h => IsAct.no h hxn) hxn); try (replace hI := IsAct.no hI hxn)) | (refine hfd.lookA t0 (fun hd => KeepC.mk hK ?_) (fun d b hd hI => KeepC.mk hK ?_)) | (have hbq := hS.blk 1 rfl; refine hS.stY hK 1 rfl (lbO rfl) rfl (fun e => hS.ne 1 0 rfl rfl (by decide) e) (fun w' hxs hK hS => KeepC.mk hK ?_); try (replace hI := IsAct.keep hI hxs hbq)))
   all_goals first | exact CutE.mk ⟨[(11, _), (10, _), (9, _), (0, _)], ⟨rfl, rfl, rfl, rfl, trivial⟩, _, _, _, rfl, hS, .inr ⟨rfl, hd, rfl⟩⟩ | exact CutE.mk ⟨[(11, _), (10, _), (9, _), (0, _)], ⟨rfl, rfl, rfl, rfl, trivial⟩, _, _, _, rfl, hS, .inl ⟨rfl, _, hd, hI⟩⟩
 clear hS
 rintro _ w7 ⟨b10, cs, k, rfl, hS, hk⟩
 rcases hk with ⟨rfl, d, hd, hI⟩ | ⟨rfl, hna, rfl⟩
 · have hk : ((true = true ∧ ∃ d, cmdOf t0 = some d ∧ Runs E W0.heap.size m X W w7 d cs) ∨ (true = false ∧ cmdOf t0 = none)) := .inl ⟨rfl, d, cmdOf_act hd, hI.runs (findC_mem hd).1⟩
   clear hd hI
   obtain ⟨d, hd, hrun⟩ : ∃ d, cmdOf t0 = some d ∧ Runs E W0.heap.size m X W w7 d cs := by
     rcases hk with ⟨_, h⟩ | ⟨h, _⟩
     · exact h
     · cases h
   clear hk
   have hcase : ∃ f caps, cs = [.string (bs d.form), .func (.func f) #[] caps] := by
     rcases hrun with ⟨f, e, _⟩ | ⟨f, b, e, _⟩
     · exact ⟨f, _, e⟩
     · exact ⟨f, _, e⟩
   obtain ⟨f, caps, rfl⟩ := hcase
   have hsl : Slc w7 1 encT (fun t => t.length ≤ 100000) (some ⟨bw, 0, none⟩) n (t0 :: ws) := Slc.of_blk codT (hS.blk 0 rfl) hnl (by omega) (fun t ht => hlen t ht) (by rw [flat_encT, Nat.mul_one, List.drop_zero, List.take_of_length_le (by rw [List.length_map]; exact Nat.le_refl _)])
   have hne := hS.ne 1 0 rfl rfl (by decide)
   conv=>whnf
   (refine drawS tabOk mixed [] No [0, 1, 2, 3, 4, 5, 6, 7, 8, 9] (by kernel_rfl) ?_; rintro w1 rfl; replace hS := hS.drew)
   conv=>whnf
   refine hS.ldF 1 rfl rfl id ?_
   conv=>whnf
   refine slcTail (j := 1) (hsl.no (Ext.drawn No w7 (w7.drawn + 1))) (Nat.le_refl _) Tryz.underlying22 (by kernel_rfl) (by kernel_rfl) rfl hn1 (fun a1 c1 hsl1 hc1 => ?_)
   conv=>whnf
   refine (sread_ok d.form ws hsl1 (by cases d <;> decide) (fun t ht => hlen t (List.mem_cons_of_mem _ ht)) (B.numv.no (hx0.trans hS.ext)) (B.pow.no (hx0.trans hS.ext))).mono ?_
   rintro v w8 ⟨⟨a2, c2, xs, k2, rfl, hnum, hown, hfr⟩, hx8⟩
   refine KeepC.mk hx8 ?_
   have hfr2 : Fresh w w8 (.slice a2 xs.length c2) := fun g hg => ⟨Nat.le_trans hS.ext.size (hfr g hg).1, (hfr g hg).2⟩
   replace hS := hS.no hx8
   cases k2 with
   | false =>
     rw [if_neg (by decide)] at hnum
     rw [play_bad hni hno (by rw [hw]; exact hd) (by rw [hw]; exact hnum)]
     conv=>whnf
     conv=>whnf
     (refine drawS tabOk mixed [] No [0, 1, 2] (by kernel_rfl) ?_; rintro w1 rfl; replace hS := hS.drew)
     conv=>whnf
     refine Ev.ldFc ((B.errs.ext (hx0.trans hS.ext) fun _ h => h.elim).at_ 1 rfl) id ?_
     repeat' ((conv => whnf); first | refine RetC.mk ?_ | refine NzC.mk (by decide) ?_ | refine rgO ?_ | refine ixO ?_ | refine brD ?_ ?_ <;> (intro) | refine brND ?_ ?_ <;> (intro) | refine brN ?_ ?_ <;> (intro) | refine brI ?_ ?_ <;> (intro))
     exact ⟨rfl, X, rfl, Turns.of_no h.has hS.ext⟩
   | true =>
     rw [if_pos rfl] at hnum
     obtain ⟨hxl, hxg⟩ := numsS_nonneg hnum
     rw [play_cmd hni hno (by rw [hw]; exact hd) (by rw [hw]; exact hnum)]
     have hsit : Sits E W0.heap.size m w8 X W bp a2 d.form.length xs := by
       refine ⟨h.no hS.ext, hS.ext.blk hply id, hplo, ?_, ?_⟩
       · rw [← hxl]
         refine ownL_slc codN hown (fun x hx => ?_)
         obtain ⟨i, hi⟩ := List.getElem?_of_mem hx
         exact ⟨(hxg i x hi).1, (hxg i x hi).2.1⟩
       · intro _ b0 o0 e hin
         obtain ⟨g, hg, hbg⟩ := hin
         have h1 := h.has.lt g hg b0 hbg
         have h2 := (hfr2 b0 (by rw [e]; rfl)).1
         omega
     have htk : d = .tick → m + 34 * (at0 xs 1).toNat ≤ 40000000 := fun e => by
       rw [← ticks_of (by rw [hw]; exact hd) (by rw [hw]; exact hnum) e]
       exact Nat.le_trans (by omega) hm
     rw [hxl]
     have hx78 := (Ext.drawn No w7 (w7.drawn + 1)).trans hx8
     rcases hrun with ⟨f2, e2, hc⟩ | ⟨f2, b2, e2, hc⟩
     · obtain ⟨rfl, rfl⟩ : f = f2 ∧ caps = #[] := by simpa [fnV] using e2
       conv=>whnf
       refine hS.ld 1 rfl rfl ?_
       conv=>whnf
       refine (hc hx78 hsit htk).mono ?_
       rintro v w9 ⟨rfl, X', hw9, hT9⟩
       repeat' ((conv => whnf); first | refine RetC.mk ?_ | refine NzC.mk (by decide) ?_ | refine rgO ?_ | refine ixO ?_ | refine brD ?_ ?_ <;> (intro) | refine brND ?_ ?_ <;> (intro) | refine brN ?_ ?_ <;> (intro) | refine brI ?_ ?_ <;> (intro))
       exact ⟨rfl, X', hw9, (Turns.of_no h.has hS.ext).trans hT9⟩
     · obtain ⟨rfl, rfl⟩ : f = f2 ∧ caps = #[.pointer (some ⟨b2, 0, none⟩)] := by simpa [fnV] using e2
       conv=>whnf
       refine hS.ld 1 rfl rfl ?_
       conv=>whnf
       refine (hc hx78 hsit htk).mono ?_
       rintro v w9 ⟨rfl, X', hw9, hT9⟩
       repeat' ((conv => whnf); first | refine RetC.mk ?_ | refine NzC.mk (by decide) ?_ | refine rgO ?_ | refine ixO ?_ | refine brD ?_ ?_ <;> (intro) | refine brND ?_ ?_ <;> (intro) | refine brN ?_ ?_ <;> (intro) | refine brI ?_ ?_ <;> (intro))
       exact ⟨rfl, X', hw9, (Turns.of_no h.has hS.ext).trans hT9⟩
 have hne := hS.ne 1 0 rfl rfl (by decide)
 have hne' := hS.ne 0 1 rfl rfl (by decide)
 conv=>whnf
 refine DrawC.cut (fun σ w' => ∃ cs k, σ = [(11, .bool k), (10, .pointer (some ⟨b10, 0, none⟩)), (9, .slice (some ⟨bw, 0, none⟩) n n), (0, .pointer (some ⟨bp, 0, none⟩))] ∧ St w No w' [blk bw 9 ((t0 :: ws).map fun l => .string (bs l)), blk b10 176 cs] ∧ ((k = true ∧ ∃ d, findC t0 looksL = some d ∧ IsLook w' d cs) ∨ (k = false ∧ findC t0 looksL = none))) ?_ ?_
 · (refine drawS tabOk mixed [] (fun b => b = b10) [1, 2, 3, 0, 4, 5, 6, 7, 8, 9] (by kernel_rfl) ?_; rintro w1 rfl; replace hS := hS.drew)
   have hK := hS.ref (fun b => b = b10)
   conv=>whnf
   refine ixO ?_
   conv=>whnf
   refine hS.ldF 0 rfl (v := .string (bs t0)) rfl hne' ?_
   conv=>whnf
   refine (looks_ok _).mono ?_
   rintro v w5 ⟨⟨r, rfl, hfd⟩, hx'⟩
   replace hS := hS.no hx'
   replace hK := hK.trans hx'.of_no
   clear hx'
   refine KeepC.mk hK ?_
   conv=>whnf
   refine hfd.lookL t0 (fun hd => KeepC.mk hK ?_) (fun d b hd hI => KeepC.mk hK ?_) (fun d f hd hI => KeepC.mk hK ?_)
   · (conv => whnf)
     refine hS.stY hK 1 rfl (lbO rfl) rfl rfl (fun w' hxs hK hS => KeepC.mk hK ?_)
     conv=>whnf
     exact CutE.mk ⟨[(11, _), (10, _), (9, _), (0, _)], ⟨rfl, rfl, rfl, rfl, trivial⟩, _, _, rfl, hS, .inr ⟨rfl, hd⟩⟩
   · (conv => whnf)
     have hbq := hS.blk 1 rfl
     refine hS.stY hK 1 rfl (lbO rfl) rfl rfl (fun w' hxs hK hS => KeepC.mk hK ?_)
     conv=>whnf
     exact CutE.mk ⟨[(11, _), (10, _), (9, _), (0, _)], ⟨rfl, rfl, rfl, rfl, trivial⟩, _, _, rfl, hS, .inl ⟨rfl, d, hd, hI.keep hxs hbq⟩⟩
   · (conv => whnf)
     have hbq := hS.blk 1 rfl
     refine hS.stY hK 1 rfl (lbO rfl) rfl rfl (fun w' hxs hK hS => KeepC.mk hK ?_)
     conv=>whnf
     exact CutE.mk ⟨[(11, _), (10, _), (9, _), (0, _)], ⟨rfl, rfl, rfl, rfl, trivial⟩, _, _, rfl, hS, .inl ⟨rfl, d, hd, hI.keep hxs hbq⟩⟩
 clear hS hne hne'
 rintro _ w7 ⟨cs, k, rfl, hS, hk⟩
 rcases hk with ⟨rfl, d, hd, hI⟩ | ⟨rfl, hd⟩
 · have hrun : Runs E W0.heap.size m X W w7 d cs := hI.runs (findC_mem hd).1 hE (fun w' hx => hP w' (hS.ext.trans hx)) (fun w2 w3 X' W' hx hw k => hA w2 w3 X' W' (hS.ext.trans hx) hw k)
   rw [← cmdOf_look hna] at hd
   clear hI
   have hcase : ∃ f caps, cs = [.string (bs d.form), .func (.func f) #[] caps] := by
     rcases hrun with ⟨f, e, _⟩ | ⟨f, b, e, _⟩
     · exact ⟨f, _, e⟩
     · exact ⟨f, _, e⟩
   obtain ⟨f, caps, rfl⟩ := hcase
   have hsl : Slc w7 1 encT (fun t => t.length ≤ 100000) (some ⟨bw, 0, none⟩) n (t0 :: ws) := Slc.of_blk codT (hS.blk 0 rfl) hnl (by omega) (fun t ht => hlen t ht) (by rw [flat_encT, Nat.mul_one, List.drop_zero, List.take_of_length_le (by rw [List.length_map]; exact Nat.le_refl _)])
   have hne := hS.ne 1 0 rfl rfl (by decide)
   conv=>whnf
   (refine drawS tabOk mixed [] No [0, 1, 2, 3, 4, 5, 6, 7, 8, 9] (by kernel_rfl) ?_; rintro w1 rfl; replace hS := hS.drew)
   conv=>whnf
   refine hS.ldF 1 rfl rfl id ?_
   conv=>whnf
   refine slcTail (j := 1) (hsl.no (Ext.drawn No w7 (w7.drawn + 1))) (Nat.le_refl _) Tryz.underlying22 (by kernel_rfl) (by kernel_rfl) rfl hn1 (fun a1 c1 hsl1 hc1 => ?_)
   conv=>whnf
   refine (sread_ok d.form ws hsl1 (by cases d <;> decide) (fun t ht => hlen t (List.mem_cons_of_mem _ ht)) (B.numv.no (hx0.trans hS.ext)) (B.pow.no (hx0.trans hS.ext))).mono ?_
   rintro v w8 ⟨⟨a2, c2, xs, k2, rfl, hnum, hown, hfr⟩, hx8⟩
   refine KeepC.mk hx8 ?_
   have hfr2 : Fresh w w8 (.slice a2 xs.length c2) := fun g hg => ⟨Nat.le_trans hS.ext.size (hfr g hg).1, (hfr g hg).2⟩
   replace hS := hS.no hx8
   cases k2 with
   | false =>
     rw [if_neg (by decide)] at hnum
     rw [play_bad hni hno (by rw [hw]; exact hd) (by rw [hw]; exact hnum)]
     conv=>whnf
     conv=>whnf
     (refine drawS tabOk mixed [] No [0, 1, 2] (by kernel_rfl) ?_; rintro w1 rfl; replace hS := hS.drew)
     conv=>whnf
     refine Ev.ldFc ((B.errs.ext (hx0.trans hS.ext) fun _ h => h.elim).at_ 1 rfl) id ?_
     repeat' ((conv => whnf); first | refine RetC.mk ?_ | refine NzC.mk (by decide) ?_ | refine rgO ?_ | refine ixO ?_ | refine brD ?_ ?_ <;> (intro) | refine brND ?_ ?_ <;> (intro) | refine brN ?_ ?_ <;> (intro) | refine brI ?_ ?_ <;> (intro))
     exact ⟨rfl, X, rfl, Turns.of_no h.has hS.ext⟩
   | true =>
     rw [if_pos rfl] at hnum
     obtain ⟨hxl, hxg⟩ := numsS_nonneg hnum
     rw [play_cmd hni hno (by rw [hw]; exact hd) (by rw [hw]; exact hnum)]
     have hsit : Sits E W0.heap.size m w8 X W bp a2 d.form.length xs := by
       refine ⟨h.no hS.ext, hS.ext.blk hply id, hplo, ?_, ?_⟩
       · rw [← hxl]
         refine ownL_slc codN hown (fun x hx => ?_)
         obtain ⟨i, hi⟩ := List.getElem?_of_mem hx
         exact ⟨(hxg i x hi).1, (hxg i x hi).2.1⟩
       · intro _ b0 o0 e hin
         obtain ⟨g, hg, hbg⟩ := hin
         have h1 := h.has.lt g hg b0 hbg
         have h2 := (hfr2 b0 (by rw [e]; rfl)).1
         omega
     have htk : d = .tick → m + 34 * (at0 xs 1).toNat ≤ 40000000 := fun e => by
       rw [← ticks_of (by rw [hw]; exact hd) (by rw [hw]; exact hnum) e]
       exact Nat.le_trans (by omega) hm
     rw [hxl]
     have hx78 := (Ext.drawn No w7 (w7.drawn + 1)).trans hx8
     rcases hrun with ⟨f2, e2, hc⟩ | ⟨f2, b2, e2, hc⟩
     · obtain ⟨rfl, rfl⟩ : f = f2 ∧ caps = #[] := by simpa [fnV] using e2
       conv=>whnf
       refine hS.ld 1 rfl rfl ?_
       conv=>whnf
       refine (hc hx78 hsit htk).mono ?_
       rintro v w9 ⟨rfl, X', hw9, hT9⟩
       repeat' ((conv => whnf); first | refine RetC.mk ?_ | refine NzC.mk (by decide) ?_ | refine rgO ?_ | refine ixO ?_ | refine brD ?_ ?_ <;> (intro) | refine brND ?_ ?_ <;> (intro) | refine brN ?_ ?_ <;> (intro) | refine brI ?_ ?_ <;> (intro))
       exact ⟨rfl, X', hw9, (Turns.of_no h.has hS.ext).trans hT9⟩
     · obtain ⟨rfl, rfl⟩ : f = f2 ∧ caps = #[.pointer (some ⟨b2, 0, none⟩)] := by simpa [fnV] using e2
       conv=>whnf
       refine hS.ld 1 rfl rfl ?_
       conv=>whnf
       refine (hc hx78 hsit htk).mono ?_
       rintro v w9 ⟨rfl, X', hw9, hT9⟩
       repeat' ((conv => whnf); first | refine RetC.mk ?_ | refine NzC.mk (by decide) ?_ | refine rgO ?_ | refine ixO ?_ | refine brD ?_ ?_ <;> (intro) | refine brND ?_ ?_ <;> (intro) | refine brN ?_ ?_ <;> (intro) | refine brI ?_ ?_ <;> (intro))
       exact ⟨rfl, X', hw9, (Turns.of_no h.has hS.ext).trans hT9⟩
 · rw [← cmdOf_look hna] at hd
   rw [play_none hni hno (by rw [hw]; exact hd)]
   conv=>whnf
   (refine drawS tabOk mixed [] No [0, 1, 2] (by kernel_rfl) ?_; rintro w1 rfl; replace hS := hS.drew)
   conv=>whnf
   refine Ev.ldFc ((B.errs.ext (hx0.trans hS.ext) fun _ h => h.elim).at_ 1 rfl) id ?_
   repeat' ((conv => whnf); first | refine RetC.mk ?_ | refine NzC.mk (by decide) ?_ | refine rgO ?_ | refine ixO ?_ | refine brD ?_ ?_ <;> (intro) | refine brND ?_ ?_ <;> (intro) | refine brN ?_ ?_ <;> (intro) | refine brI ?_ ?_ <;> (intro))
   exact ⟨rfl, X, rfl, Turns.of_no h.has hS.ext⟩
end
end Go.Proofs.YtogjajjdaoihdaaGreatDoor

namespace Go.Proofs.YtogjajjdaoihdaaGreatDoor
set_option maxRecDepth 20000
open Go Ev
theorem at0_le {xs : List Int} (h : ∀ (i : Nat) x, xs[i]? = some x → x ≤ 99999) (i : Nat) : at0 xs i ≤ 99999 := by
 unfold at0
 rw [List.getD_eq_getElem?_getD]
 cases hx : xs[i]? with
 | none => show (0 : Int) ≤ 99999; decide
 | some x => exact h i x hx
theorem askS_code (W : WorldS) (n : Int) (f : NodeS → Int) : (askS W n f).2 < 12 := by
 have := upErr_code W n
 unfold askS
 split
 · exact this
 · split
   · show 0 < 12; decide
   · exact this
theorem does_ok {d : Cmd} {xs : List Int} {W : WorldS} {m t : Nat} (h : WOk m W) (hE : EpW W) (hg : ∀ i, at0 xs i ≤ 99999) (hm : m + (34 * t + 1) ≤ 40000000) (ht : d = .tick → t = (at0 xs 1).toNat) :
   WOk (m + (34 * t + 1)) (d.does xs W).2 ∧ EpW (d.does xs W).2 ∧ (d.does xs W).1.2 < 12 := by
 have hc := hg 1
 cases d with
 | tick =>
   obtain rfl := ht rfl
   exact ⟨(ticks_ok _ _ h (by omega)).mono (by omega), hE.ticks _ _ h (by omega), wticks_code _ _ _⟩
 | go => exact ⟨(h.deliver _).mono (by omega), hE.deliver _, wdeliver_code _ _⟩
 | lose => exact ⟨(h.drop _).mono (by omega), hE.drop _, wdrop_code _ _⟩
 | twice => exact ⟨(h.twice _).mono (by omega), hE.twice _, wtwice_code _ _⟩
 | down => exact ⟨(h.down _).mono (by omega), hE.down _, wdown_code _ _⟩
 | up => exact ⟨(h.up _).mono (by omega), hE.up _, wup_code _ _⟩
 | cut => exact ⟨(h.cut _ _ (by omega)).mono (by omega), hE.cut _ _, wcut_code _ _ _⟩
 | all => exact ⟨(land_ok _ h).mono (by omega), hE.land _, by show 0 < 12; decide⟩
 | fly => exact ⟨h.mono (by omega), hE, by show 0 < 12; decide⟩
 | active => exact ⟨h.mono (by omega), hE, by show 0 < 12; decide⟩
 | switch => exact ⟨h.mono (by omega), hE, by show 0 < 12; decide⟩
 | flows => exact ⟨h.mono (by omega), hE, askS_code _ _ _⟩
 | mirror => exact ⟨h.mono (by omega), hE, askS_code _ _ _⟩
 | epoch => exact ⟨h.mono (by omega), hE, askS_code _ _ _⟩
 | life => exact ⟨h.mono (by omega), hE, askS_code _ _ _⟩
 | events => exact ⟨h.mono (by omega), hE, by show 0 < 12; decide⟩
theorem carryS_ok {s : List UInt8} {f : PktS → Nat × PktS × WorldS} {W : WorldS} {P : WorldS → Prop} (h : P W) (hf : ∀ p, P (f p).2.2) (hc : ∀ p, (f p).1 < 12) : P (carryS s f W).2 ∧ (carryS s f W).1.2 < 12 := by
 unfold carryS
 split
 · exact ⟨h, by show 1 < 12; decide⟩
 split
 · exact ⟨hf _, hc _⟩
 · exact ⟨hf _, (f (readPk s).1).2.1.err_code⟩
theorem playS_ok {l : List UInt8} {W : WorldS} {m : Nat} (h : WOk m W) (hE : EpW W) (hm : m + (34 * ticksOf l + 1) ≤ 40000000) : WOk (m + (34 * ticksOf l + 1)) (playS l W).2 ∧ EpW (playS l W).2 ∧ (playS l W).1.2 < 12 := by
 unfold playS
 split
 · obtain ⟨h1, h2⟩ := carryS_ok (s := (Lib.cut l [32]).2.1) (f := W.inside) (W := W) (P := fun V => WOk (m + 1) V ∧ EpW V) ⟨h.mono (by omega), hE⟩ (fun p => ⟨h.inside p, hE.inside p⟩) (fun p => winside_code W p)
   exact ⟨h1.1.mono (by omega), h1.2, h2⟩
 split
 · obtain ⟨h1, h2⟩ := carryS_ok (s := (Lib.cut l [32]).2.1) (f := W.outside) (W := W) (P := fun V => WOk (m + 1) V ∧ EpW V) ⟨h.mono (by omega), hE⟩ (fun p => ⟨h.outside p, hE.outside p⟩) (fun p => woutside_code W p)
   exact ⟨h1.1.mono (by omega), h1.2, h2⟩
 cases hc : cmdOf ((cutR 32 l).headD []) with
 | none => exact ⟨h.mono (by omega), hE, by show 1 < 12; decide⟩
 | some d =>
   dsimp only
   cases hn : numsS d.form ((cutR 32 l).drop 1) with
   | none => exact ⟨h.mono (by omega), hE, by show 1 < 12; decide⟩
   | some xs =>
     refine does_ok h hE (at0_le fun i x hx => ((numsS_nonneg hn).2 i x hx).2.1) hm fun hd => ?_
     subst hd
     unfold ticksOf
     rw [hc]
     dsimp only
     rw [hn]
theorem tellS_ok {l : List UInt8} {W : WorldS} {m : Nat} (h : WOk m W) (hE : EpW W) (hm : m + (34 * ticksOf l + 1) ≤ 40000000) : WOk (m + (34 * ticksOf l + 1)) (tellS l W).2 ∧ EpW (tellS l W).2 := ⟨(playS_ok h hE hm).1, (playS_ok h hE hm).2.1⟩
theorem runS_ok : ∀ (l : List (List UInt8)) {W : WorldS} {m : Nat}, WOk m W → EpW W → m + costS l ≤ 40000000 → WOk (m + costS l) (runS l W).2 ∧ EpW (runS l W).2
 | [], _, _, h, hE, _ => ⟨h, hE⟩
 | t :: l, W, m, h, hE, hm => by
   have e : costS (t :: l) = (34 * ticksOf t + 1) + costS l := rfl
   rw [e] at hm ⊢
   obtain ⟨h1, h2⟩ := tellS_ok h hE (show m + (34 * ticksOf t + 1) ≤ 40000000 by omega)
   obtain ⟨h3, h4⟩ := runS_ok l h1 h2 (by omega)
   exact ⟨h3.mono (by omega), h4⟩
theorem errT_ne (k : Nat) : errT k ≠ [] := by
 unfold errT
 exact fun h => by simp at h
noncomputable def scriptS (s : List UInt8) (ls : List (List UInt8)) : (Nat × Int) × List (List UInt8) :=
 if 100 < ls.length then ((2, -1), []) else if (rulesOfS s).2.1 ≠ 0 then ((rulesOfS s).2, []) else ((0, -1), (runS ls (.born (rulesOfS s).1)).1)
theorem rulesOfS_code (s : List UInt8) : (rulesOfS s).2.1 < 12 := by
 have hf : ∀ l, (faultL l).1 < 12 := fun l => by
   rcases fault_code l with ⟨h, _⟩ | ⟨h, _⟩ | ⟨h, _⟩ <;> rw [h] <;> decide
 unfold rulesOfS
 split
 · show 2 < 12; decide
 split
 · show 0 < 12; decide
 split
 · show 1 < 12; decide
 split
 · exact hf _
 · show 0 < 12; decide
theorem rulesOfS_fine {s : List UInt8} (h : (rulesOfS s).2.1 = 0) : (faultL (rulesOfS s).1).1 = 0 ∧ (rulesOfS s).2.2 = -1 := by
 unfold rulesOfS at h ⊢
 split
 · rename_i h1
   rw [if_pos h1] at h
   cases h
 rename_i h1
 rw [if_neg h1] at h
 split
 · exact ⟨rfl, rfl⟩
 rename_i h2
 rw [if_neg h2] at h
 split
 · rename_i i hi
   rw [hi] at h
   cases h
 · rename_i hi
   rw [hi] at h
   dsimp only at h
   split
   · rename_i h3
     rw [if_pos h3] at h
     exact absurd h h3
   · rename_i h3
     exact ⟨Decidable.not_not.1 h3, rfl⟩
end Go.Proofs.YtogjajjdaoihdaaGreatDoor

namespace Go.Proofs.YtogjajjdaoihdaaGreatDoor
set_option maxRecDepth 20000
open Go Ev
theorem cell_spot {w : World} {a : Addr} {v : Value} (h : w.cell? a = some v) : a = ⟨a.block, a.off, none⟩ := by
 obtain ⟨b, o, s⟩ := a
 cases s with
 | none => rfl
 | some x =>
   unfold World.cell? at h
   split at h
   · simp at h
   · cases h
theorem m_err (v : Value) (w : World) : (Go.method (Tryz.prog.types.size + Made.depth) 438 v "Error").run Tryz.prog w = .ok (404, v) w := by kernel_rfl
section
variable {w w' : World} {E : Nat → Addr} {W0 : World}
theorem errText_ok {b o : Nat} {t : ByteArray} (h : w.cell? ⟨b, o, none⟩ = some (.string t)) : CallC Tryz.prog 404 #[.pointer (some ⟨b, o, none⟩)] w fun v w' => v = .string t ∧ w = w' := by
 refine fn_intro tabOk Tryz.func404 (by kernel_rfl) rfl Tryz.ntmps404 (lbO rfl) ?_
 conv=>whnf
 refine ldc (o := o + 0) h ?_
 repeat' ((conv => whnf); first | refine RetC.mk ?_ | refine NzC.mk (by decide) ?_ | refine rgO ?_ | refine ixO ?_ | refine brD ?_ ?_ <;> (intro) | refine brND ?_ ?_ <;> (intro) | refine brN ?_ ?_ <;> (intro) | refine brI ?_ ?_ <;> (intro))
 exact ⟨rfl, rfl⟩
theorem sbare_ok (e : Addr) (w : World) (hh : Handle w) : CallC Tryz.prog 35 #[.iface 438 (.pointer (some e))] w fun v w' => v = .iface 438 (.pointer (some e)) ∧ Ext No w w' := by
 refine fn_intro tabOk Tryz.func35 (by kernel_rfl) rfl Tryz.ntmps35 (lbO rfl) ?_
 have hS := St.start w No
 conv=>whnf
 refine hS.new (fun b w' hb hS => ?_)
 conv=>whnf
 refine (errorsAs_miss e ⟨b, 0, none⟩ _ (hh.ext hS.ext)).mono ?_
 rintro v w2 ⟨rfl, hx⟩
 replace hS := hS.no hx
 repeat' ((conv => whnf); first | refine RetC.mk ?_ | refine NzC.mk (by decide) ?_ | refine rgO ?_ | refine ixO ?_ | refine brD ?_ ?_ <;> (intro) | refine brND ?_ ?_ <;> (intro) | refine brN ?_ ?_ <;> (intro) | refine brI ?_ ?_ <;> (intro))
 exact ⟨rfl, hS.ext⟩
theorem Base.errs_at (B : Base E W0) {w : World} (hx : Ext No W0 w) (k : Nat) (h0 : 1 ≤ k) (h1 : k < 12) : ∃ b o, E k = ⟨b, o, none⟩ ∧ w.cell? ⟨b, o, none⟩ = some (.string (bs (errT k))) := by
 have h := B.text k h0 h1
 have e := cell_spot h
 refine ⟨(E k).block, (E k).off, e, ?_⟩
 have e2 : (E k).spot = none := by
   have := congrArg Addr.spot e
   exact this
 rw [e2] at h
 exact hx.cell h id
set_option maxHeartbeats 4000000 in
theorem srun_ok (B : Base E W0) (hx0 : Ext No W0 w) (s : List UInt8) (hl : s.length ≤ 100000) {a : Option Addr} {n c : Nat} {ls : List (List UInt8)} (hx : Slc w 1 encT (fun t => t.length ≤ 100000) a n ls) (hcost : costS ls ≤ 40000000) :
   CallC Tryz.prog 9 #[.string (bs s), .slice a n c] w fun v w' => (∃ a' c' e, v = .tuple #[.slice a' (scriptS s ls).2.length c', e] ∧ FaultV E w w' e (scriptS s ls).1.1 (scriptS s ls).1.2 ∧ (ownL 9 1 encT (.slice a' (scriptS s ls).2.length c') (scriptS s ls).2).holds w' ∧ Fresh w w' (.slice a' (scriptS s ls).2.length c')) ∧ Ext No w w' := by
 have hlen := hx.len
 have nilT : ∀ w : World, (ownL 9 1 encT (.slice none 0 0) ([] : List (List UInt8))).holds w := fun w => own_nil _ _ _
 have hE0 : ∀ {w'}, Ext No w w' → Errs w' E W0.heap.size allErrs := fun hx => B.errs.ext (hx0.trans hx) fun _ h => h.elim
 unfold scriptS
 rw [hlen]
 refine fn_intro tabOk Tryz.func9 (by kernel_rfl) rfl Tryz.ntmps9 (lbO rfl) ?_
 have hS := St.start w No
 conv=>whnf
 refine brD (fun h1 => ?_) (fun h1 => ?_)
 · rw [if_pos (show 100 < n by omega)]
   conv=>whnf
   (refine drawS tabOk mixed [] No [0, 1, 2] (by kernel_rfl) ?_; rintro w1 rfl; replace hS := hS.drew)
   conv=>whnf
   refine Ev.ldFc ((hE0 hS.ext).at_ 2 rfl) id ?_
   repeat' ((conv => whnf); first | refine RetC.mk ?_ | refine NzC.mk (by decide) ?_ | refine rgO ?_ | refine ixO ?_ | refine brD ?_ ?_ <;> (intro) | refine brND ?_ ?_ <;> (intro) | refine brN ?_ ?_ <;> (intro) | refine brI ?_ ?_ <;> (intro))
   exact ⟨⟨none, 0, _, rfl, .inl ⟨rfl, rfl⟩, nilT _, fun g hg => by cases hg⟩, hS.ext⟩
 rw [if_neg (show ¬ 100 < n by omega)]
 conv=>whnf
 refine (preads_ok s w hl (B.maxl.no hx0) (B.numv.no hx0) (B.pow.no hx0) (B.prot.no hx0) ((hE0 (Ext.refl _ _)).sub rfl)).mono ?_
 rintro v w1 ⟨⟨a1, c1, e1, rfl, hf1, ho1, hfr1⟩, hx1⟩
 replace hS := hS.no hx1
 have hfine := @rulesOfS_fine s
 generalize rulesOfS s = R at hf1 ho1 hfr1 hfine ⊢
 obtain ⟨rs, code, at_⟩ := R
 dsimp only at hf1 ho1 hfr1 hfine ⊢
 cases code with
 | succ j =>
   rw [if_pos (Nat.succ_ne_zero j)]
   obtain ⟨t, u, rfl⟩ := hf1.ne
   repeat' ((conv => whnf); first | refine RetC.mk ?_ | refine NzC.mk (by decide) ?_ | refine rgO ?_ | refine ixO ?_ | refine brD ?_ ?_ <;> (intro) | refine brND ?_ ?_ <;> (intro) | refine brN ?_ ?_ <;> (intro) | refine brI ?_ ?_ <;> (intro))
   exact ⟨⟨none, 0, _, rfl, hf1, nilT _, fun g hg => by cases hg⟩, hS.ext⟩
 | zero =>
   rw [if_neg (fun h => h rfl)]
   obtain rfl : e1 = .nilIface := by
     rcases hf1 with ⟨_, h⟩ | ⟨_, h, _⟩
     · exact h
     · omega
   obtain ⟨hg, rfl⟩ := hfine rfl
   have hgr := fault_good.1 hg
   clear hf1 hfine
   conv=>whnf
   refine (wnew_ok (G := fun _ => True) (ownL_slc codRule ho1 (fun _ _ => trivial)) (by have := hgr.1; omega) ((hE0 hS.ext).sub rfl) (hx0.trans hS.ext).size hg).mono ?_
   rintro v w2 ⟨X, rfl, hx2, hst, hnew⟩
   obtain ⟨hok0, hok1, hok⟩ := WOk.born hgr
   have hEp := EpW.born rs
   have hS : St w No w2 (worldH X (.born rs)) := hS.madeAll hx2 hst.has hnew
   generalize WorldS.born rs = Wb at hst hnew hok hEp hS ⊢
   clear hst hnew hx2 hok0 hok1 ho1 hfr1
   conv=>whnf
   refine hS.new (fun bp w3 hbp hS => ?_)
   replace hS := hS.perm List.perm_append_comm
   conv=>whnf
   replace hS := (hS.rowFirst 9 1 encT).as (H' := [ownL 9 1 encT (.slice none 0 0) [], blk bp 90 [.pointer (some ⟨X.w, 0, none⟩)]] ++ worldH X Wb) rfl
   refine loopR tabOk (fun σ w' r => ∃ (k : Nat) (a' : Option Addr) (c' : Nat) (X' : WorldA), σ = [(40, .int .i64 k), (39, .int .i64 n), (38, .slice a n c), (10, .slice a' k c'), (9, .pointer (some ⟨bp, 0, none⟩))] ∧ r = n - k ∧ k ≤ n ∧ X'.w = X.w ∧ St w No w' ([ownL 9 1 encT (.slice a' k c') (runS (ls.take k) Wb).1, blk bp 90 [.pointer (some ⟨X.w, 0, none⟩)]] ++ worldH X' (runS (ls.take k) Wb).2))
     (σ' := [(40, .int .i64 ((0 : Nat) : Int)), (39, .int .i64 n), (38, .slice a n c), (10, .slice none 0 0), (9, .pointer (some ⟨bp, 0, none⟩))]) (n := n) ⟨rfl, rfl, rfl, rfl, rfl, trivial⟩ ⟨0, none, 0, X, rfl, rfl, Nat.zero_le _, rfl, hS⟩ ?_
   clear hS
   rintro _ w4 r ⟨k, a', c', X', rfl, rfl, hk, hw, hS⟩
   conv=>whnf
   refine brD (fun h3 => ?_) (fun h3 => ?_)
   · obtain ⟨b0, o0, t, hat, htl, rfl, hb0, hc⟩ := hx.at (k := k) (by omega)
     have hst := runS_take hat Wb
     have hcs := costS_take hat
     have hcl := costS_le ls (k + 1)
     obtain ⟨hok1, hEp1⟩ := runS_ok (ls.take k) hok hEp (by omega)
     rw [Nat.zero_add] at hok1
     have hrl : (runS (ls.take k) Wb).1.length = k := by rw [runS_len, List.length_take]; omega
     have hm : costS (ls.take k) + (34 * ticksOf t + 1) ≤ 40000000 := by omega
     clear hcl hcs
     generalize runS (ls.take k) Wb = R at *
     have hsd : Stands E W0.heap.size (costS (ls.take k)) w4 X' R.2 := ⟨hS.has.right, hok1, (hE0 hS.ext).sub rfl, fun b hb => Nat.le_trans hx0.size (by
       obtain ⟨e, he, hbe⟩ := hb
       exact ((hS.may e (List.mem_append_right _ he) b hbe).1.elim (fun h => h.elim) id))⟩
     have hplo : ¬ inF (worldH X' R.2) bp := fun hin => by
       obtain ⟨g, hg, hbg⟩ := hin
       exact (List.pairwise_append.1 hS.apart).2.2 _ (List.mem_cons_of_mem _ List.mem_cons_self) g hg bp (List.mem_singleton.2 rfl) hbg
     obtain ⟨hok2, hEp2, hcode⟩ := playS_ok hok1 hEp1 hm
     conv=>whnf
     refine ixO ?_
     conv=>whnf
     refine hS.ldr (hc 0 _ rfl) id ?_
     conv=>whnf
     refine (splay_ok B hsd (hx0.trans hS.ext) (by rw [hw]; exact hS.blk 1 rfl) hplo hEp1 t htl hm).mono ?_
     rintro v w5 ⟨rfl, X2, hX2, hT⟩
     replace hX2 := hX2.trans hw
     replace hS := St.callAt (A := [_, _]) (B := []) (H := worldH X' R.2) (by simpa using hS) hT
     rw [List.append_nil] at hS
     have htell : tellS t R.2 = (if (playS t R.2).1.2 = 0 then (playS t R.2).1.1 else errT (playS t R.2).1.2, (playS t R.2).2) := rfl
     rw [htell] at hst
     generalize playS t R.2 = P at hst hS hcode ⊢
     obtain ⟨⟨tx, j⟩, Z⟩ := P
     dsimp only at hst hS hcode ⊢
     cases j with
     | zero =>
       rw [if_pos rfl] at hst
       replace hS := hS.perm List.perm_append_comm
       conv=>whnf
       refine hS.lit Tryz.underlying22 (sz := 1) (by kernel_rfl) (z := .string (bs [])) (by kernel_rfl) rfl rfl (cs := encT tx) (by rfl) (fun b9 w4 hb9 hS => ?_)
       replace hS := (hS.perm List.perm_append_comm).as (H' := [blk b9 9 (encT tx)] ++ (worldH X2 Z ++ [ownL 9 1 encT (.slice a' k c') R.1, blk bp 90 [.pointer (some ⟨X.w, 0, none⟩)]])) rfl
       replace hS := (hS.perm (List.Perm.append_left _ List.perm_append_comm)).as (H' := [blk b9 9 (encT tx)] ++ ([ownL 9 1 encT (.slice a' k c') R.1, blk bp 90 [.pointer (some ⟨X.w, 0, none⟩)]] ++ worldH X2 Z)) rfl
       conv=>whnf
       refine hS.appS codT 1 (ys := [tx]) (G := fun _ => True) Tryz.underlying22 (bytes := 16) (by kernel_rfl) (z := .string (bs [])) (by kernel_rfl) rfl rfl (Slc.of_blk codT (hS.blk 0 rfl) rfl (by simp) (fun _ _ => trivial) rfl) (by rw [hrl]; unfold maxLen; omega) (by rw [hrl]; omega) (fun a2 c2 w5 hS => ?_)
       rw [hrl] at hS ⊢
       replace hS := (hS.as (H' := [_] ++ ([ownL 9 1 encT (.slice a2 (k + 1) c2) (R.1 ++ [tx]), blk bp 90 [.pointer (some ⟨X.w, 0, none⟩)]] ++ worldH X2 Z)) rfl).weaken (List.sublist_append_right _ _)
       conv=>whnf
       refine rgO ?_
       conv=>whnf
       refine LoopE.mk ⟨_, [(40, .int .i64 ((k + 1 : Nat) : Int)), (39, _), (38, _), (10, .slice a2 (k + 1) c2), (9, _)], ?_, ⟨rfl, rfl, rfl, rfl, rfl, trivial⟩, ⟨k + 1, a2, c2, X2, rfl, rfl, by omega, hX2, by rw [hst]; exact hS⟩⟩
       omega
     | succ j =>
       rw [if_neg (Nat.succ_ne_zero j)] at hst
       conv=>whnf
       refine (sbare_ok _ _ (B.hand.ext (hx0.trans hS.ext))).mono ?_
       rintro v w6 ⟨rfl, hx6⟩
       replace hS := hS.no hx6
       obtain ⟨be, oe, hEe, hte⟩ := B.errs_at (hx0.trans hS.ext) (j + 1) (by omega) hcode
       rw [hEe]
       conv=>whnf
       refine ⟨_, _, m_err _ _, ?_⟩
       refine (errText_ok hte).mono ?_
       rintro v w7 ⟨rfl, rfl⟩
       replace hS := hS.perm List.perm_append_comm
       conv=>whnf
       refine hS.lit Tryz.underlying22 (sz := 1) (by kernel_rfl) (z := .string (bs [])) (by kernel_rfl) rfl rfl (cs := encT (errT (j + 1))) (by rfl) (fun b9 w4 hb9 hS => ?_)
       replace hS := (hS.perm List.perm_append_comm).as (H' := [blk b9 9 (encT (errT (j + 1)))] ++ (worldH X2 Z ++ [ownL 9 1 encT (.slice a' k c') R.1, blk bp 90 [.pointer (some ⟨X.w, 0, none⟩)]])) rfl
       replace hS := (hS.perm (List.Perm.append_left _ List.perm_append_comm)).as (H' := [blk b9 9 (encT (errT (j + 1)))] ++ ([ownL 9 1 encT (.slice a' k c') R.1, blk bp 90 [.pointer (some ⟨X.w, 0, none⟩)]] ++ worldH X2 Z)) rfl
       conv=>whnf
       refine hS.appS codT 1 (ys := [(errT (j + 1))]) (G := fun _ => True) Tryz.underlying22 (bytes := 16) (by kernel_rfl) (z := .string (bs [])) (by kernel_rfl) rfl rfl (Slc.of_blk codT (hS.blk 0 rfl) rfl (by simp) (fun _ _ => trivial) rfl) (by rw [hrl]; unfold maxLen; omega) (by rw [hrl]; omega) (fun a2 c2 w5 hS => ?_)
       rw [hrl] at hS ⊢
       replace hS := (hS.as (H' := [_] ++ ([ownL 9 1 encT (.slice a2 (k + 1) c2) (R.1 ++ [(errT (j + 1))]), blk bp 90 [.pointer (some ⟨X.w, 0, none⟩)]] ++ worldH X2 Z)) rfl).weaken (List.sublist_append_right _ _)
       conv=>whnf
       refine rgO ?_
       conv=>whnf
       refine LoopE.mk ⟨_, [(40, .int .i64 ((k + 1 : Nat) : Int)), (39, _), (38, _), (10, .slice a2 (k + 1) c2), (9, _)], ?_, ⟨rfl, rfl, rfl, rfl, rfl, trivial⟩, ⟨k + 1, a2, c2, X2, rfl, rfl, by omega, hX2, by rw [hst]; exact hS⟩⟩
       omega
   · obtain rfl : k = n := by omega
     rw [List.take_of_length_le (by omega)] at hS
     have hrl : (runS ls Wb).1.length = k := by rw [runS_len]; exact hlen
     repeat' ((conv => whnf); first | refine RetC.mk ?_ | refine NzC.mk (by decide) ?_ | refine rgO ?_ | refine ixO ?_ | refine brD ?_ ?_ <;> (intro) | refine brND ?_ ?_ <;> (intro) | refine brN ?_ ?_ <;> (intro) | refine brI ?_ ?_ <;> (intro))
     rw [hrl]
     exact ⟨⟨a', c', _, rfl, .inl ⟨rfl, rfl⟩, hS.get 0 rfl, hS.freshAt 0 rfl⟩, hS.ext⟩
end
end Go.Proofs.YtogjajjdaoihdaaGreatDoor

namespace Go.Proofs.YtogjajjdaoihdaaGreatDoor
set_option maxRecDepth 20000
open Go Ev
section
variable {w : World} {G G' : List UInt8 → Prop} {a b : Option Addr} {n m c d : Nat} {xs ys : List (List UInt8)}
theorem takeT_eq {k : Nat} {x y : List UInt8} (hx : xs[k]? = some x) (hy : ys[k]? = some y) (h : xs.take k = ys.take k) (e : x = y) : xs.take (k + 1) = ys.take (k + 1) := by
 rw [List.take_add_one, List.take_add_one, hx, hy, h, e]
theorem sameTexts_ok (hx : Slc w 1 encT G a n xs) (hy : Slc w 1 encT G' b m ys) :
   CallC Tryz.prog 19 #[.slice a n c, .slice b m d] w fun v w' => v = .bool (decide (xs = ys)) ∧ Ext No w w' := by
 have hm := hx.max
 have hl := hx.len
 have hl2 := hy.len
 refine fn_intro tabOk Tryz.func19 (by kernel_rfl) rfl Tryz.ntmps19 (lbO rfl) ?_
 have hS := St.start w No
 conv=>whnf
 refine brND (fun h1 => ?_) (fun h1 => ?_)
 · repeat' ((conv => whnf); first | refine RetC.mk ?_ | refine NzC.mk (by decide) ?_ | refine rgO ?_ | refine ixO ?_ | refine brD ?_ ?_ <;> (intro) | refine brND ?_ ?_ <;> (intro) | refine brN ?_ ?_ <;> (intro) | refine brI ?_ ?_ <;> (intro))
   refine ⟨?_, hS.ext⟩
   have : xs ≠ ys := fun e => h1 (by rw [← hl, ← hl2, e])
   simp [this]
 have hnm : n = m := by omega
 subst hnm
 conv=>whnf
 refine loopR tabOk (fun σ w' q => ∃ k : Nat, σ = [(5, .int .i64 k), (1, .slice b n d), (0, .slice a n c)] ∧ q = n - k ∧ k ≤ n ∧ St w No w' [] ∧ xs.take k = ys.take k)
   (σ' := [(5, .int .i64 ((0 : Nat) : Int)), (1, .slice b n d), (0, .slice a n c)]) (n := n) ⟨rfl, rfl, rfl, trivial⟩ ⟨0, rfl, rfl, Nat.zero_le _, hS, rfl⟩ ?_
 clear hS
 rintro _ w1 q ⟨k, rfl, rfl, hk, hS, hi⟩
 conv=>whnf
 refine brD (fun h3 => ?_) (fun h3 => ?_)
 · obtain ⟨b0, o0, x, hxk, _, rfl, _, hc⟩ := hx.at (k := k) (by omega)
   obtain ⟨b1, o1, y, hyk, _, rfl, _, hd⟩ := hy.at (k := k) (by omega)
   conv=>whnf
   (refine drawS tabOk mixed [] No [0, 1, 2, 3, 4, 5, 6, 7, 8] (by kernel_rfl) ?_; rintro w1 rfl; replace hS := hS.drew)
   conv=>whnf
   refine ixO ?_
   conv=>whnf
   refine hS.ldrF (hc.one 0 rfl) id id ?_
   conv=>whnf
   refine ixO ?_
   conv=>whnf
   refine hS.ldrF (hd.one 0 rfl) id id ?_
   conv=>whnf
   refine neS2 ?_
   conv=>whnf
   refine brND (fun h4 => ?_) (fun h4 => ?_)
   · repeat' ((conv => whnf); first | refine RetC.mk ?_ | refine NzC.mk (by decide) ?_ | refine rgO ?_ | refine ixO ?_ | refine brD ?_ ?_ <;> (intro) | refine brND ?_ ?_ <;> (intro) | refine brN ?_ ?_ <;> (intro) | refine brI ?_ ?_ <;> (intro))
     refine ⟨?_, hS.ext⟩
     have : xs ≠ ys := fun e => h4 (by subst e; exact Option.some.inj (hxk.symm.trans hyk))
     simp [this]
   · (conv => whnf)
     refine rgO ?_
     conv=>whnf
     refine LoopE.mk ⟨_, [(5, .int .i64 ((k + 1 : Nat) : Int)), (1, _), (0, _)], ?_, ⟨rfl, rfl, rfl, trivial⟩, ⟨k + 1, rfl, rfl, by omega, hS, takeT_eq hxk hyk hi h4⟩⟩
     omega
 · repeat' ((conv => whnf); first | refine RetC.mk ?_ | refine NzC.mk (by decide) ?_ | refine rgO ?_ | refine ixO ?_ | refine brD ?_ ?_ <;> (intro) | refine brND ?_ ?_ <;> (intro) | refine brN ?_ ?_ <;> (intro) | refine brI ?_ ?_ <;> (intro))
   have : k = n := by omega
   subst this
   rw [List.take_of_length_le (by omega), List.take_of_length_le (by omega)] at hi
   exact ⟨by simp [hi], hS.ext⟩
end
def rule19 : RuleS := ⟨true, true, 0, 1, 9⟩
def pkt56 : PktS := ⟨1, 5, 1, 6, 9, 0⟩
def hRules : List UInt8 := [97, 108, 108, 111, 119, 32, 111, 117, 116, 32, 97, 110, 121, 32, 49, 45, 57, 10]
def hLine1 : List UInt8 := [116, 105, 99, 107, 32, 49, 32, 49, 48]
def hLine2 : List UInt8 := [97, 108, 108]
def hLine3 : List UInt8 := [115, 119, 105, 116, 99, 104]
def hPkt : List UInt8 := [117, 100, 112, 32, 53, 58, 49, 32, 54, 58, 57]
def hLine4 : List UInt8 := [105, 110, 115, 105, 100, 101, 32] ++ hPkt
def hLine5 : List UInt8 := [102, 108, 111, 119, 115, 32, 49]
def hOut4 : List UInt8 := [117, 100, 112, 32, 49, 58, 50, 48, 50, 52, 32, 54, 58, 57]
theorem itoa1 : Lib.itoa 1 = [49] := Lib.decDigits_one (i := 1) (by decide)
theorem itoa5 : Lib.itoa 5 = [53] := Lib.decDigits_one (i := 5) (by decide)
theorem itoa6 : Lib.itoa 6 = [54] := Lib.decDigits_one (i := 6) (by decide)
theorem itoa9 : Lib.itoa 9 = [57] := Lib.decDigits_one (i := 9) (by decide)
theorem itoa2024 : Lib.itoa 2024 = [50, 48, 50, 52] := by
 have h := canon_dec 3 [50, 48, 50, 52] rfl ⟨by decide, by decide, fun _ => by decide⟩
 exact h
theorem hRules_of : rulesOfS hRules = ([rule19], (0, -1)) := by
 have h := rulesOfS_lines (l := [rule19]) (by decide)
 have e : linesB [rule19] = hRules := by
   simp only [linesB, rule19, List.flatMap_cons, List.flatMap_nil, RuleS.line, RuleS.words, itoa1, itoa9]
   decide
 rwa [e] at h
theorem hPkt_text : pkt56.text = hPkt := by
 simp only [PktS.text, endT, pkt56, itoa1, itoa5, itoa6, itoa9]
 decide
def helloB : Bool :=
 let R := (WorldS.born [rule19]).ticks 1 10
 let V := R.2.land R.2.fly.length
 let I := V.inside pkt56
 decide (R.1 = 0) && decide (R.2.fly.length = 1) && decide (V.to = 1) && decide (V.epoch = 1) && decide (I.1 = 0) && decide (I.2.1 = ⟨1, 1, 2024, 6, 9, 0⟩) && decide (I.2.2.upErr 1 = 0) && (match (I.2.2.side 1).node with | some N => decide (flowsN N.tab.cells = 1) | none => false)
theorem helloB_true : helloB = true := by decide +kernel
theorem tell_cmd {l : List UInt8} {W : WorldS} {d : Cmd} {xs : List Int} (h : (Lib.cut l [32]).1 ≠ wInside) (h2 : (Lib.cut l [32]).1 ≠ wOutside) (h3 : cmdOf ((cutR 32 l).headD []) = some d) (h4 : numsS d.form ((cutR 32 l).drop 1) = some xs) : tellS l W = (if (d.does xs W).1.2 = 0 then (d.does xs W).1.1 else errT (d.does xs W).1.2, (d.does xs W).2) := by
 unfold tellS
 rw [play_cmd h h2 h3 h4]
theorem hello_plain : (runS [hLine1, hLine2, hLine3, hLine4, hLine5] (.born [rule19])).1 = [tOk, [49], [49, 32, 49], hOut4, [49]] := by
 have hb := helloB_true
 unfold helloB at hb
 simp only [Bool.and_eq_true, decide_eq_true_eq] at hb
 obtain ⟨⟨⟨⟨⟨⟨⟨h1, h2⟩, h3⟩, h4⟩, h5⟩, h6⟩, h7⟩, h8⟩ := hb
 have t1 : tellS hLine1 (.born [rule19]) = (tOk, ((WorldS.born [rule19]).ticks 1 10).2) := by
   rw [tell_cmd (d := .tick) (xs := [1, 10]) (by decide) (by decide) (by decide) (by decide)]
   show (if ((WorldS.born [rule19]).ticks 1 10).1 = 0 then tOk else _, ((WorldS.born [rule19]).ticks 1 10).2) = _
   rw [if_pos h1]
 generalize (WorldS.born [rule19]).ticks 1 10 = R at h1 h2 h3 h4 h5 h6 h7 h8 t1
 have t2 : tellS hLine2 R.2 = ([49], R.2.land R.2.fly.length) := by
   rw [tell_cmd (d := .all) (xs := []) (by decide) (by decide) (by decide) (by decide)]
   show (Lib.itoa (R.2.fly.length : Nat), R.2.land R.2.fly.length) = _
   rw [h2, show ((1 : Nat) : Int) = 1 from rfl, itoa1]
 generalize R.2.land R.2.fly.length = V at h3 h4 h5 h6 h7 h8 t2
 have t3 : tellS hLine3 V = ([49, 32, 49], V) := by
   rw [tell_cmd (d := .switch) (xs := []) (by decide) (by decide) (by decide) (by decide)]
   show (if V.to < 0 then tNothing else Lib.itoa V.to ++ [32] ++ Lib.itoa V.epoch, V) = _
   rw [h3, h4, if_neg (by decide), itoa1]
   rfl
 have t4 : tellS hLine4 V = (hOut4, (V.inside pkt56).2.2) := by
   have hr : (Lib.cut hLine4 [32]).2.1 = pkt56.text := by rw [hPkt_text]; decide
   have hp : playS hLine4 V = ((hOut4, 0), (V.inside pkt56).2.2) := by
     rw [play_in (by decide), hr, carry_good (readPk_text (by decide)) h5, h6]
     have ho : (⟨1, 1, 2024, 6, 9, 0⟩ : PktS).text = hOut4 := by
       simp only [PktS.text, endT, itoa1, itoa2024, itoa6, itoa9]
       decide
     rw [ho]
     rfl
   unfold tellS
   rw [hp]
   rfl
 generalize (V.inside pkt56).2.2 = Z at h7 h8 t4
 have t5 : tellS hLine5 Z = ([49], Z) := by
   rw [tell_cmd (d := .flows) (xs := [1]) (by decide) (by decide) (by decide) (by decide)]
   have ha : askS Z 1 (fun N => (flowsN N.tab.cells : Nat)) = ([49], 0) := by
     unfold askS
     split at h8
     · rename_i N hN
       rw [hN]
       dsimp only
       rw [if_pos h7, of_decide_eq_true h8]
       rw [show ((1 : Nat) : Int) = 1 from rfl, itoa1]
     · cases h8
   show (if (askS Z 1 (fun N => (flowsN N.tab.cells : Nat))).2 = 0 then (askS Z 1 (fun N => (flowsN N.tab.cells : Nat))).1 else _, Z) = _
   rw [ha]
   rfl
 simp only [runS, t1, t2, t3, t4, t5]
section
variable {w : World} {E : Nat → Addr} {W0 : World}
theorem hello_cost : costS [hLine1, hLine2, hLine3, hLine4, hLine5] ≤ 40000000 := by decide +kernel
theorem hello_ok (B : Base E W0) (hx0 : Ext No W0 w) : CallC Tryz.prog 8 #[] w fun v w' => v = .bool true ∧ Ext No w w' := by
 refine fn_intro tabOk Tryz.func8 (by kernel_rfl) rfl Tryz.ntmps8 (lbO rfl) ?_
 have hS := St.start w No
 conv=>whnf
 refine hS.lit (cs := [hLine1, hLine2, hLine3, hLine4, hLine5].map fun l => .string (bs l)) Tryz.underlying22 (sz := 1) (by kernel_rfl) (z := .string (bs [])) (by kernel_rfl) rfl rfl (by rfl) (fun b w1 hb hS => ?_)
 have hx : Slc w1 1 encT (fun t => t.length ≤ 100000) (some ⟨b, 0, none⟩) 5 [hLine1, hLine2, hLine3, hLine4, hLine5] := Slc.of_blk codT (hS.blk 0 rfl) rfl (by decide) (by decide) rfl
 conv=>whnf
 refine (srun_ok B (hx0.trans hS.ext) hRules (by decide) hx hello_cost).mono ?_
 have hsc : scriptS hRules [hLine1, hLine2, hLine3, hLine4, hLine5] = ((0, -1), [tOk, [49], [49, 32, 49], hOut4, [49]]) := by
   unfold scriptS
   rw [if_neg (by decide), hRules_of, if_neg (by decide), hello_plain]
 rw [hsc]
 rintro v w2 ⟨⟨a2, c2, e, rfl, hf, ho, _⟩, hx2⟩
 replace hS := hS.no hx2
 obtain rfl : e = .nilIface := by
   rcases hf with ⟨_, h⟩ | ⟨_, h, _⟩
   · exact h
   · exact absurd h (by decide)
 have hz := ownL_slc (G := fun _ => True) codT ho (fun _ _ => trivial)
 conv=>whnf
 refine hS.litX (cs := [tOk, [49], [49, 32, 49], hOut4, [49]].map fun l => .string (bs l)) Tryz.underlying22 (sz := 1) (by kernel_rfl) (z := .string (bs [])) (by kernel_rfl) rfl rfl (by rfl) (fun b3 w3 hb3 hx3 hS => ?_)
 have hy : Slc w3 1 encT (fun _ => True) (some ⟨b3, 0, none⟩) 5 [tOk, [49], [49, 32, 49], hOut4, [49]] := Slc.of_blk codT (hS.blk 1 rfl) rfl (by decide) (fun _ _ => trivial) rfl
 conv=>whnf
 refine (sameTexts_ok (hz.no hx3) hy).mono ?_
 rintro v w4 ⟨rfl, hx4⟩
 replace hS := hS.no hx4
 repeat' ((conv => whnf); first | refine RetC.mk ?_ | refine NzC.mk (by decide) ?_ | refine rgO ?_ | refine ixO ?_ | refine brD ?_ ?_ <;> (intro) | refine brND ?_ ?_ <;> (intro) | refine brN ?_ ?_ <;> (intro) | refine brI ?_ ?_ <;> (intro))
 exact ⟨rfl, hS.ext⟩
end
end Go.Proofs.YtogjajjdaoihdaaGreatDoor

namespace Go.Proofs.YtogjajjdaoihdaaGreatDoor
set_option maxRecDepth 20000
open Go Ev
theorem valD_bound : ∀ {l : List UInt8}, (∀ b ∈ l, isDig b = true) → valD l < 10 ^ l.length := by
 have key : ∀ (l : List UInt8) (acc : Nat), (∀ b ∈ l, isDig b = true) → l.foldl (fun n b => 10 * n + (b.toNat - 48)) acc < (acc + 1) * 10 ^ l.length := by
   intro l
   induction l with
   | nil => intro acc _; simp
   | cons b l ih =>
     intro acc hb
     have hd := isDig_iff.1 (hb b List.mem_cons_self)
     have := ih (10 * acc + (b.toNat - 48)) fun c hc => hb c (List.mem_cons_of_mem _ hc)
     rw [List.foldl_cons, List.length_cons, Nat.pow_succ]
     refine Nat.lt_of_lt_of_le this ?_
     rw [Nat.mul_comm (10 ^ l.length) 10, ← Nat.mul_assoc]
     exact Nat.mul_le_mul_right _ (by omega)
 intro l hl
 have := key l 0 hl
 rwa [Nat.zero_add, Nat.one_mul] at this
theorem findC_word {s : List UInt8} {d : Cmd} : ∀ {L : List Cmd}, findC s L = some d → s = d.word
 | [], h => by cases h
 | c :: L, h => by
   unfold findC at h
   split at h
   · cases h
     assumption
   · exact findC_word h
theorem cmdOf_word {s : List UInt8} {d : Cmd} (h : cmdOf s = some d) : s = d.word := by
 unfold cmdOf at h
 split at h
 · rename_i c hc
   cases h
   exact findC_word hc
 · exact findC_word h
theorem nums2 {c1 c2 : UInt8} {ws : List (List UInt8)} {xs : List Int} (h : numsS [c1, c2] ws = some xs) : ∃ a b, ws = [a, b] ∧ 0 ≤ numS a 5 ∧ 0 ≤ numS b 5 ∧ xs = [numS a 5, numS b 5] := by
 match ws, h with
 | [], h => cases h
 | [a], h =>
   unfold numsS at h
   split at h
   · cases h
   · cases h
 | [a, b], h =>
   unfold numsS at h
   split at h
   · cases h
   rename_i h1
   unfold numsS at h
   split at h
   · cases h
   rename_i h2
   unfold numsS at h
   simp only [Option.map_some, Option.some.injEq] at h
   exact ⟨a, b, rfl, by omega, by omega, h.symm⟩
 | a :: b :: c :: r, h =>
   unfold numsS at h
   split at h
   · cases h
   unfold numsS at h
   split at h
   · cases h
   cases h
theorem ticks_small {l : List UInt8} (h : ¬ (10 < l.length ∧ l.take 4 = [116, 105, 99, 107])) : ticksOf l ≤ 999 := by
 unfold ticksOf
 split
 · rename_i hc
   split
   · rename_i xs hx
     obtain ⟨t0, ws, hw⟩ := cutR_cons 32 l
     rw [hw] at hc hx
     have ht : t0 = [116, 105, 99, 107] := cmdOf_word hc
     obtain ⟨a, b, hab, ha, hb, rfl⟩ := nums2 hx
     have hab : ws = [a, b] := hab
     subst ht hab
     have hl := join_cutR 32 l
     rw [hw] at hl
     have hj : Lib.join [[116, 105, 99, 107], a, b] [32] = [116, 105, 99, 107] ++ 32 :: (a ++ 32 :: b) := by
       rw [join_cc, List.singleton_append, join_cc, List.singleton_append, Lib.join_one]
     rw [hj] at hl
     obtain ⟨ca, la, va⟩ := numS_canon ha
     obtain ⟨cb, lb, vb⟩ := numS_canon hb
     have hln : l.length = 4 + (a.length + b.length + 2) := by
       rw [← hl]
       simp only [List.length_append, List.length_cons, List.length_nil]
       omega
     have htk : l.take 4 = [116, 105, 99, 107] := by
       rw [← hl]
       rfl
     have ha1 : 0 < a.length := List.length_pos_iff.2 ca.ne
     have hb3 : b.length ≤ 3 := by
       refine Nat.le_of_not_lt fun h4 => h ⟨by omega, htk⟩
     have hlt := valD_bound cb.dig
     have h10 : 10 ^ b.length ≤ 10 ^ 3 := Nat.pow_le_pow_right (by decide) hb3
     show (numS b 5).toNat ≤ 999
     rw [vb]
     omega
   · exact Nat.zero_le _
 · exact Nat.zero_le _
theorem costS_small : ∀ {ls : List (List UInt8)}, (∀ t ∈ ls, ¬ (10 < t.length ∧ t.take 4 = [116, 105, 99, 107])) → costS ls ≤ ls.length * 33967
 | [], _ => Nat.zero_le _
 | t :: ls, h => by
   have h1 := ticks_small (h t List.mem_cons_self)
   have h2 := costS_small (ls := ls) fun u hu => h u (List.mem_cons_of_mem _ hu)
   have e : costS (t :: ls) = (34 * ticksOf t + 1) + costS ls := rfl
   rw [e, List.length_cons, Nat.succ_mul]
   omega
theorem itoa_ne (n : Int) : Lib.itoa n ≠ [] := by
 unfold Lib.itoa
 split
 · simp
 · exact (dec_facts _).1
theorem evT1_ne (e : Int × Int) : evT1 e ≠ [] := by
 unfold evT1
 simp
theorem eventsT_ne (l : List (Int × Int)) : eventsT l ≠ [] := by
 unfold eventsT
 split
 · decide
 · rename_i h
   cases l with
   | nil => exact absurd rfl h
   | cons e l =>
     rw [List.map_cons, Lib.join_cons]
     intro h2
     exact evT1_ne e (List.append_eq_nil_iff.1 h2).1
theorem upErr_zero {W : WorldS} {n : Int} (h : (W.side n).node = none) : W.upErr n ≠ 0 := by
 unfold WorldS.upErr
 split
 · decide
 · rw [h]
   decide
theorem askS_ne {W : WorldS} {n : Int} {f : NodeS → Int} (h : (askS W n f).2 = 0) : (askS W n f).1 ≠ [] := by
 unfold askS at h ⊢
 split at h
 · rename_i hn
   exact absurd h (upErr_zero hn)
 · split at h
   · rename_i h1
     rw [if_pos h1]
     exact itoa_ne _
   · rename_i h1
     exact absurd h h1
theorem does_ne {d : Cmd} {xs : List Int} {W : WorldS} (h : (d.does xs W).1.2 = 0) : (d.does xs W).1.1 ≠ [] := by
 cases d with
 | tick | go | lose | twice | down | up | cut => show tOk ≠ []; decide
 | all | fly => exact itoa_ne (W.fly.length : Nat)
 | active =>
   show activeS W _ ≠ []
   unfold activeS
   split
   · decide
   · split
     · split <;> decide
     · decide
 | switch =>
   show (if W.to < 0 then tNothing else Lib.itoa W.to ++ [32] ++ Lib.itoa W.epoch) ≠ []
   split
   · decide
   · simp
 | flows | mirror | epoch | life => exact askS_ne h
 | events => exact eventsT_ne _
theorem text_ne (p : PktS) : p.text ≠ [] := by
 unfold PktS.text
 split <;> simp
theorem carryS_ne {s : List UInt8} {f : PktS → Nat × PktS × WorldS} {W : WorldS} (h : (carryS s f W).1.2 = 0) : (carryS s f W).1.1 ≠ [] := by
 unfold carryS at h ⊢
 split at h
 · cases h
 rename_i h1
 rw [if_neg h1]
 split at h
 · rename_i h2
   exact absurd h h2
 rename_i h2
 rw [if_neg h2]
 dsimp only at h ⊢
 rw [if_pos h]
 exact text_ne _
theorem playS_ne {l : List UInt8} {W : WorldS} (h : (playS l W).1.2 = 0) : (playS l W).1.1 ≠ [] := by
 unfold playS at h ⊢
 split at h
 · rename_i h1
   rw [if_pos h1]
   exact carryS_ne h
 rename_i h1
 rw [if_neg h1]
 split at h
 · rename_i h2
   rw [if_pos h2]
   exact carryS_ne h
 rename_i h2
 rw [if_neg h2]
 cases hc : cmdOf ((cutR 32 l).headD []) with
 | none =>
   rw [hc] at h
   cases h
 | some d =>
   rw [hc] at h
   dsimp only at h ⊢
   cases hx : numsS d.form ((cutR 32 l).drop 1) with
   | none =>
     rw [hx] at h
     cases h
   | some xs =>
     rw [hx] at h
     exact does_ne h
theorem tellS_ne (l : List UInt8) (W : WorldS) : (tellS l W).1 ≠ [] := by
 unfold tellS
 dsimp only
 split
 · rename_i h
   exact playS_ne h
 · exact errT_ne _
theorem word_at {l : List UInt8} {k : Nat} (hk : k ≤ l.length) (hn : ∀ j < k, l[j]? ≠ some 32) (he : k = l.length ∨ l[k]? = some 32) : (Lib.cut l [32]).1 = l.take k ∧ (Lib.cut l [32]).2.1 = l.drop (k + 1) ∧ (cutR 32 l).headD [] = l.take k := by
 have hw : (32 : UInt8) ∉ l.take k := fun hm => by
   obtain ⟨j, hj⟩ := List.getElem?_of_mem hm
   have hlt := (List.getElem?_eq_some_iff.1 hj).1
   rw [List.length_take] at hlt
   rw [List.getElem?_take, if_pos (by omega)] at hj
   exact hn j (by omega) hj
 by_cases hkl : k = l.length
 · subst hkl
   rw [List.take_length] at hw ⊢
   have h1 := cutR_one l hw
   rw [cut_none h1, h1]
   exact ⟨rfl, (List.drop_eq_nil_of_le (by omega)).symm, rfl⟩
 · have h32 : l[k]? = some 32 := he.resolve_left hkl
   obtain ⟨hlt, hg⟩ := List.getElem?_eq_some_iff.1 h32
   have hl : l = l.take k ++ 32 :: l.drop (k + 1) := by
     conv => lhs; rw [← List.take_append_drop k l, List.drop_eq_getElem_cons hlt, hg]
   have h1 := cutR_word (l.take k) (l.drop (k + 1)) hw
   rw [← hl] at h1
   obtain ⟨b, r, hb⟩ := cutR_cons 32 (l.drop (k + 1))
   have hj := join_cutR 32 (l.drop (k + 1))
   rw [hb] at h1 hj
   rw [cut_two h1, hj, h1]
   exact ⟨rfl, rfl, rfl⟩
def formW (w : List UInt8) : Option (List UInt8) := if w = wInside ∨ w = wOutside then some [112] else (cmdOf w).map Cmd.form
theorem formW_none {w : List UInt8} (h : formW w = none) : w ≠ wInside ∧ w ≠ wOutside ∧ cmdOf w = none := by
 unfold formW at h
 split at h
 · cases h
 · rename_i h1
   refine ⟨fun e => h1 (.inl e), fun e => h1 (.inr e), ?_⟩
   cases hc : cmdOf w with
   | none => rfl
   | some d => rw [hc] at h; cases h
theorem tell_bad {l : List UInt8} (W : WorldS) (h : playS l W = (([], 1), W)) : (tellS l W).1 = errT 1 := by
 unfold tellS
 rw [h]
 rfl
end Go.Proofs.YtogjajjdaoihdaaGreatDoor

namespace Go.Proofs.YtogjajjdaoihdaaGreatDoor
set_option maxRecDepth 20000
open Go Ev
theorem cmd_words (d : Cmd) : d.word = [116, 105, 99, 107] ∨ d.word = [99, 117, 116] ∨ d.word = [103, 111] ∨ d.word = [108, 111, 115, 101] ∨ d.word = [116, 119, 105, 99, 101] ∨ d.word = [100, 111, 119, 110] ∨ d.word = [117, 112] ∨ d.word = [97, 99, 116, 105, 118, 101] ∨ d.word = [102, 108, 111, 119, 115] ∨ d.word = [109, 105, 114, 114, 111, 114] ∨ d.word = [101, 112, 111, 99, 104] ∨ d.word = [108, 105, 102, 101] ∨ d.word = [97, 108, 108] ∨ d.word = [102, 108, 121] ∨ d.word = [115, 119, 105, 116, 99, 104] ∨ d.word = [101, 118, 101, 110, 116, 115] := by
 cases d <;> simp [Cmd.word]
section
variable {w : World}
theorem formOf_ok (s : List UInt8) (w : World) : CallC Tryz.prog 13 #[.string (bs s)] w fun v w' => v = .tuple #[.string (bs ((formW s).getD [])), .bool (formW s).isSome] ∧ w = w' := by
 refine fn_intro tabOk Tryz.func13 (by kernel_rfl) rfl Tryz.ntmps13 (lbO rfl) ?_
 conv=>whnf
 refine eqS2 (b := [116, 105, 99, 107]) ?_
 by_cases h0 : s = [116, 105, 99, 107]
 · rw [decide_eq_true h0]
   repeat' ((conv => whnf); first | refine RetC.mk ?_ | refine NzC.mk (by decide) ?_ | refine rgO ?_ | refine ixO ?_ | refine brD ?_ ?_ <;> (intro) | refine brND ?_ ?_ <;> (intro) | refine brN ?_ ?_ <;> (intro) | refine brI ?_ ?_ <;> (intro))
   rw [h0, show formW [116, 105, 99, 107] = some [115, 110] by decide]
   exact ⟨rfl, rfl⟩
 rw [decide_eq_false h0]
 conv=>whnf
 refine eqS2 (b := [99, 117, 116]) ?_
 by_cases h1 : s = [99, 117, 116]
 · rw [decide_eq_true h1]
   repeat' ((conv => whnf); first | refine RetC.mk ?_ | refine NzC.mk (by decide) ?_ | refine rgO ?_ | refine ixO ?_ | refine brD ?_ ?_ <;> (intro) | refine brND ?_ ?_ <;> (intro) | refine brN ?_ ?_ <;> (intro) | refine brI ?_ ?_ <;> (intro))
   rw [h1, show formW [99, 117, 116] = some [115, 110] by decide]
   exact ⟨rfl, rfl⟩
 rw [decide_eq_false h1]
 conv=>whnf
 refine eqS2 (b := [103, 111]) ?_
 by_cases h2 : s = [103, 111]
 · rw [decide_eq_true h2]
   repeat' ((conv => whnf); first | refine RetC.mk ?_ | refine NzC.mk (by decide) ?_ | refine rgO ?_ | refine ixO ?_ | refine brD ?_ ?_ <;> (intro) | refine brND ?_ ?_ <;> (intro) | refine brN ?_ ?_ <;> (intro) | refine brI ?_ ?_ <;> (intro))
   rw [h2, show formW [103, 111] = some [110] by decide]
   exact ⟨rfl, rfl⟩
 rw [decide_eq_false h2]
 conv=>whnf
 refine eqS2 (b := [108, 111, 115, 101]) ?_
 by_cases h3 : s = [108, 111, 115, 101]
 · rw [decide_eq_true h3]
   repeat' ((conv => whnf); first | refine RetC.mk ?_ | refine NzC.mk (by decide) ?_ | refine rgO ?_ | refine ixO ?_ | refine brD ?_ ?_ <;> (intro) | refine brND ?_ ?_ <;> (intro) | refine brN ?_ ?_ <;> (intro) | refine brI ?_ ?_ <;> (intro))
   rw [h3, show formW [108, 111, 115, 101] = some [110] by decide]
   exact ⟨rfl, rfl⟩
 rw [decide_eq_false h3]
 conv=>whnf
 refine eqS2 (b := [116, 119, 105, 99, 101]) ?_
 by_cases h4 : s = [116, 119, 105, 99, 101]
 · rw [decide_eq_true h4]
   repeat' ((conv => whnf); first | refine RetC.mk ?_ | refine NzC.mk (by decide) ?_ | refine rgO ?_ | refine ixO ?_ | refine brD ?_ ?_ <;> (intro) | refine brND ?_ ?_ <;> (intro) | refine brN ?_ ?_ <;> (intro) | refine brI ?_ ?_ <;> (intro))
   rw [h4, show formW [116, 119, 105, 99, 101] = some [110] by decide]
   exact ⟨rfl, rfl⟩
 rw [decide_eq_false h4]
 conv=>whnf
 refine eqS2 (b := [100, 111, 119, 110]) ?_
 by_cases h5 : s = [100, 111, 119, 110]
 · rw [decide_eq_true h5]
   repeat' ((conv => whnf); first | refine RetC.mk ?_ | refine NzC.mk (by decide) ?_ | refine rgO ?_ | refine ixO ?_ | refine brD ?_ ?_ <;> (intro) | refine brND ?_ ?_ <;> (intro) | refine brN ?_ ?_ <;> (intro) | refine brI ?_ ?_ <;> (intro))
   rw [h5, show formW [100, 111, 119, 110] = some [115] by decide]
   exact ⟨rfl, rfl⟩
 rw [decide_eq_false h5]
 conv=>whnf
 refine eqS2 (b := [117, 112]) ?_
 by_cases h6 : s = [117, 112]
 · rw [decide_eq_true h6]
   repeat' ((conv => whnf); first | refine RetC.mk ?_ | refine NzC.mk (by decide) ?_ | refine rgO ?_ | refine ixO ?_ | refine brD ?_ ?_ <;> (intro) | refine brND ?_ ?_ <;> (intro) | refine brN ?_ ?_ <;> (intro) | refine brI ?_ ?_ <;> (intro))
   rw [h6, show formW [117, 112] = some [115] by decide]
   exact ⟨rfl, rfl⟩
 rw [decide_eq_false h6]
 conv=>whnf
 refine eqS2 (b := [97, 99, 116, 105, 118, 101]) ?_
 by_cases h7 : s = [97, 99, 116, 105, 118, 101]
 · rw [decide_eq_true h7]
   repeat' ((conv => whnf); first | refine RetC.mk ?_ | refine NzC.mk (by decide) ?_ | refine rgO ?_ | refine ixO ?_ | refine brD ?_ ?_ <;> (intro) | refine brND ?_ ?_ <;> (intro) | refine brN ?_ ?_ <;> (intro) | refine brI ?_ ?_ <;> (intro))
   rw [h7, show formW [97, 99, 116, 105, 118, 101] = some [115] by decide]
   exact ⟨rfl, rfl⟩
 rw [decide_eq_false h7]
 conv=>whnf
 refine eqS2 (b := [102, 108, 111, 119, 115]) ?_
 by_cases h8 : s = [102, 108, 111, 119, 115]
 · rw [decide_eq_true h8]
   repeat' ((conv => whnf); first | refine RetC.mk ?_ | refine NzC.mk (by decide) ?_ | refine rgO ?_ | refine ixO ?_ | refine brD ?_ ?_ <;> (intro) | refine brND ?_ ?_ <;> (intro) | refine brN ?_ ?_ <;> (intro) | refine brI ?_ ?_ <;> (intro))
   rw [h8, show formW [102, 108, 111, 119, 115] = some [115] by decide]
   exact ⟨rfl, rfl⟩
 rw [decide_eq_false h8]
 conv=>whnf
 refine eqS2 (b := [109, 105, 114, 114, 111, 114]) ?_
 by_cases h9 : s = [109, 105, 114, 114, 111, 114]
 · rw [decide_eq_true h9]
   repeat' ((conv => whnf); first | refine RetC.mk ?_ | refine NzC.mk (by decide) ?_ | refine rgO ?_ | refine ixO ?_ | refine brD ?_ ?_ <;> (intro) | refine brND ?_ ?_ <;> (intro) | refine brN ?_ ?_ <;> (intro) | refine brI ?_ ?_ <;> (intro))
   rw [h9, show formW [109, 105, 114, 114, 111, 114] = some [115] by decide]
   exact ⟨rfl, rfl⟩
 rw [decide_eq_false h9]
 conv=>whnf
 refine eqS2 (b := [101, 112, 111, 99, 104]) ?_
 by_cases h10 : s = [101, 112, 111, 99, 104]
 · rw [decide_eq_true h10]
   repeat' ((conv => whnf); first | refine RetC.mk ?_ | refine NzC.mk (by decide) ?_ | refine rgO ?_ | refine ixO ?_ | refine brD ?_ ?_ <;> (intro) | refine brND ?_ ?_ <;> (intro) | refine brN ?_ ?_ <;> (intro) | refine brI ?_ ?_ <;> (intro))
   rw [h10, show formW [101, 112, 111, 99, 104] = some [115] by decide]
   exact ⟨rfl, rfl⟩
 rw [decide_eq_false h10]
 conv=>whnf
 refine eqS2 (b := [108, 105, 102, 101]) ?_
 by_cases h11 : s = [108, 105, 102, 101]
 · rw [decide_eq_true h11]
   repeat' ((conv => whnf); first | refine RetC.mk ?_ | refine NzC.mk (by decide) ?_ | refine rgO ?_ | refine ixO ?_ | refine brD ?_ ?_ <;> (intro) | refine brND ?_ ?_ <;> (intro) | refine brN ?_ ?_ <;> (intro) | refine brI ?_ ?_ <;> (intro))
   rw [h11, show formW [108, 105, 102, 101] = some [115] by decide]
   exact ⟨rfl, rfl⟩
 rw [decide_eq_false h11]
 conv=>whnf
 refine eqS2 (b := [105, 110, 115, 105, 100, 101]) ?_
 by_cases h12 : s = [105, 110, 115, 105, 100, 101]
 · rw [decide_eq_true h12]
   repeat' ((conv => whnf); first | refine RetC.mk ?_ | refine NzC.mk (by decide) ?_ | refine rgO ?_ | refine ixO ?_ | refine brD ?_ ?_ <;> (intro) | refine brND ?_ ?_ <;> (intro) | refine brN ?_ ?_ <;> (intro) | refine brI ?_ ?_ <;> (intro))
   rw [h12, show formW [105, 110, 115, 105, 100, 101] = some [112] by decide]
   exact ⟨rfl, rfl⟩
 rw [decide_eq_false h12]
 conv=>whnf
 refine eqS2 (b := [111, 117, 116, 115, 105, 100, 101]) ?_
 by_cases h13 : s = [111, 117, 116, 115, 105, 100, 101]
 · rw [decide_eq_true h13]
   repeat' ((conv => whnf); first | refine RetC.mk ?_ | refine NzC.mk (by decide) ?_ | refine rgO ?_ | refine ixO ?_ | refine brD ?_ ?_ <;> (intro) | refine brND ?_ ?_ <;> (intro) | refine brN ?_ ?_ <;> (intro) | refine brI ?_ ?_ <;> (intro))
   rw [h13, show formW [111, 117, 116, 115, 105, 100, 101] = some [112] by decide]
   exact ⟨rfl, rfl⟩
 rw [decide_eq_false h13]
 conv=>whnf
 refine eqS2 (b := [97, 108, 108]) ?_
 by_cases h14 : s = [97, 108, 108]
 · rw [decide_eq_true h14]
   repeat' ((conv => whnf); first | refine RetC.mk ?_ | refine NzC.mk (by decide) ?_ | refine rgO ?_ | refine ixO ?_ | refine brD ?_ ?_ <;> (intro) | refine brND ?_ ?_ <;> (intro) | refine brN ?_ ?_ <;> (intro) | refine brI ?_ ?_ <;> (intro))
   rw [h14, show formW [97, 108, 108] = some [] by decide]
   exact ⟨rfl, rfl⟩
 rw [decide_eq_false h14]
 conv=>whnf
 refine eqS2 (b := [102, 108, 121]) ?_
 by_cases h15 : s = [102, 108, 121]
 · rw [decide_eq_true h15]
   repeat' ((conv => whnf); first | refine RetC.mk ?_ | refine NzC.mk (by decide) ?_ | refine rgO ?_ | refine ixO ?_ | refine brD ?_ ?_ <;> (intro) | refine brND ?_ ?_ <;> (intro) | refine brN ?_ ?_ <;> (intro) | refine brI ?_ ?_ <;> (intro))
   rw [h15, show formW [102, 108, 121] = some [] by decide]
   exact ⟨rfl, rfl⟩
 rw [decide_eq_false h15]
 conv=>whnf
 refine eqS2 (b := [115, 119, 105, 116, 99, 104]) ?_
 by_cases h16 : s = [115, 119, 105, 116, 99, 104]
 · rw [decide_eq_true h16]
   repeat' ((conv => whnf); first | refine RetC.mk ?_ | refine NzC.mk (by decide) ?_ | refine rgO ?_ | refine ixO ?_ | refine brD ?_ ?_ <;> (intro) | refine brND ?_ ?_ <;> (intro) | refine brN ?_ ?_ <;> (intro) | refine brI ?_ ?_ <;> (intro))
   rw [h16, show formW [115, 119, 105, 116, 99, 104] = some [] by decide]
   exact ⟨rfl, rfl⟩
 rw [decide_eq_false h16]
 conv=>whnf
 refine eqS2 (b := [101, 118, 101, 110, 116, 115]) ?_
 by_cases h17 : s = [101, 118, 101, 110, 116, 115]
 · rw [decide_eq_true h17]
   repeat' ((conv => whnf); first | refine RetC.mk ?_ | refine NzC.mk (by decide) ?_ | refine rgO ?_ | refine ixO ?_ | refine brD ?_ ?_ <;> (intro) | refine brND ?_ ?_ <;> (intro) | refine brN ?_ ?_ <;> (intro) | refine brI ?_ ?_ <;> (intro))
   rw [h17, show formW [101, 118, 101, 110, 116, 115] = some [] by decide]
   exact ⟨rfl, rfl⟩
 rw [decide_eq_false h17]
 have hf : formW s = none := by
   unfold formW
   rw [if_neg (fun h => h.elim h12 h13)]
   cases hc : cmdOf s with
   | none => rfl
   | some d =>
     have hw := cmdOf_word hc
     rcases cmd_words d with h | h | h | h | h | h | h | h | h | h | h | h | h | h | h | h <;> rw [h] at hw <;> contradiction
 repeat' ((conv => whnf); first | refine RetC.mk ?_ | refine NzC.mk (by decide) ?_ | refine rgO ?_ | refine ixO ?_ | refine brD ?_ ?_ <;> (intro) | refine brND ?_ ?_ <;> (intro) | refine brN ?_ ?_ <;> (intro) | refine brI ?_ ?_ <;> (intro))
 rw [hf]
 exact ⟨rfl, rfl⟩
theorem errorText_ok (k : Nat) (h1 : 1 ≤ k) (h2 : k < 12) (w : World) : CallC Tryz.prog 14 #[.int .i64 (k : Int)] w fun v w' => v = .string (bs (errT k)) ∧ Ext No w w' := by
 have hk : k = 1 ∨ k = 2 ∨ k = 3 ∨ k = 4 ∨ k = 5 ∨ k = 6 ∨ k = 7 ∨ k = 8 ∨ k = 9 ∨ k = 10 ∨ k = 11 := by omega
 rcases hk with rfl | rfl | rfl | rfl | rfl | rfl | rfl | rfl | rfl | rfl | rfl
 all_goals
   refine fn_intro tabOk Tryz.func14 (by kernel_rfl) rfl Tryz.ntmps14 (lbO rfl) ?_
   have hS := St.start w No
   conv=>whnf
   refine hS.lit (cs := [errN 1, errN 2, errN 3, errN 4, errN 5, errN 6, errN 7, errN 8, errN 9, errN 10, errN 11].map fun l => .string (bs l)) Tryz.underlying22 (sz := 1) (by kernel_rfl) (z := .string (bs [])) (by kernel_rfl) rfl rfl (by rfl) (fun b w1 hb hS => ?_)
   conv=>whnf
   refine rgO ?_
   conv=>whnf
   refine ixO ?_
   conv=>whnf
   refine hS.ld 0 rfl rfl ?_
   conv=>whnf
   refine addS (a := [116, 119, 105, 110, 114, 97, 109, 112, 97, 114, 116, 58, 32]) (by decide) ?_
   repeat' ((conv => whnf); first | refine RetC.mk ?_ | refine NzC.mk (by decide) ?_ | refine rgO ?_ | refine ixO ?_ | refine brD ?_ ?_ <;> (intro) | refine brND ?_ ?_ <;> (intro) | refine brN ?_ ?_ <;> (intro) | refine brI ?_ ?_ <;> (intro))
   exact ⟨rfl, hS.ext⟩
end
end Go.Proofs.YtogjajjdaoihdaaGreatDoor
